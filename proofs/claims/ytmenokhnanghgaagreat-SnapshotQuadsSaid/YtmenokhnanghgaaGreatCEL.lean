/- Contracts of cmp.Compare, cmp.Or and point.Compare. What the model's == and != say of positions, boxes and arrays of four integers. Contracts of the small functions of pattern and of its reference. The contracts of Right, of pattern and of its reference. The contracts of the reference's Right, and of Get and Top. Contracts of the tests on coordinates and boxes, of the program and of the reference. The contracts of Box, of pattern and of its reference. The contracts of slices.Clone at cells and of Shift, of pattern and of its reference. The contracts of hood.Right and of the reference's Right. Boxes of a function's own; chains of worlds; slices behind a name. The contracts of Same and Compare, of pattern and of its reference. The contracts of the reference's Compare and Same. -/
import Derived.Test.YtmenokhnanghgaaGreatProg
import Derived.Test.YtmenokhnanghgaaGreatMEM
import Derived.Test.YtmenokhnanghgaaGreatPLN
import Derived.StillTailTactics
import Derived.Laws.StructEq
import Derived.ChangeKeysEq
import Derived.Deep.RegionHeld3
set_option linter.unusedSimpArgs false
set_option linter.unusedVariables false
section
namespace Go.Proofs.YtmenokhnanghgaaGreat
open Go Go.RowKit
set_option maxRecDepth 100000
theorem cmp_isNaN (a : Int) (w : World) : Calls Tryz.prog 145 #[.int .i64 a] w fun e w' => e = .returned (.bool false) ∧ w = w' := by
  go_enter Tryz.func145, Tryz.ntmps145
  go_wp2
  go_ret
  exact ⟨ret_bool (by simp), rfl⟩
theorem cmp_Compare (a b : Int) (w : World) : Calls Tryz.prog 131 #[.int .i64 a, .int .i64 b] w fun e w' => e = .returned (.int .i64 (cmpI a b)) ∧ w = w' := by
  go_enter Tryz.func131, Tryz.ntmps131
  go_wp2_with (first | (go_at_call 145; refine (cmp_isNaN _ _).mono ?_; rintro e w' ⟨rfl, rfl⟩))
  all_goals
    go_ret
    exact ⟨ret_int (by unfold cmpI; (repeat' split) <;> omega), rfl⟩
set_option maxHeartbeats 400000 in
theorem cmp_Or2 (A : Option Addr) (c : Nat) (a b : Int) (w : World) (hR : Rd encI 1 w A 2 [a, b]) : Calls Tryz.prog 130 #[.slice A 2 c] w fun e w' => e = .returned (.int .i64 (orI a b)) ∧ w = w' := by
  obtain ⟨x0, b0, o0, hx0, rfl, hb0, hc0⟩ := hR.int (i := 0) (by omega)
  obtain ⟨x1, b1, o1, hx1, he, hb1, hc1⟩ := hR.int (i := 1) (by omega)
  obtain ⟨rfl, rfl⟩ : b0 = b1 ∧ o0 = o1 := by injection he with he; injection he with e1 e2; exact ⟨e1, e2⟩
  obtain rfl : a = x0 := by have := hx0.out; simpa using this
  obtain rfl : b = x1 := by have := hx1.out; simpa using this
  clear he hx0 hx1
  simp only [Nat.add_zero] at hc0
  go_enter Tryz.func130, Tryz.ntmps130
  go_wp2
  go_loop [8] (fun i => ∃ j : Nat, j ≤ 2 ∧ i = .int .i64 j ∧ Hid (0 < j → a = 0) ∧ Hid (1 < j → b = 0)) (fun i => 2 - (intOf i).toNat)
  case atStart => exact ⟨0, by omega, rfl, fun h => absurd h (by omega), fun h => absurd h (by omega)⟩
  case round =>
    obtain ⟨j, hj, rfl, h0, h1⟩ := hrel
    have hjc : j = 0 ∨ j = 1 ∨ j = 2 := by omega
    rcases hjc with rfl | rfl | rfl
    · by_cases hq : a = 0
      · have hq' : (a != 0) = false := by simp [hq]
        have HQ := Lib.hid hq
        clear hq
        go_wp2
        go_round
        case rel => exact ⟨1, by omega, by go_num, fun _ => HQ.out, fun h => absurd h (by omega)⟩
        case measure => simp [intOf]
      · have hq' : (a != 0) = true := by simp [hq]
        have HQ := Lib.hid hq
        clear hq
        go_wp2
        go_ret
        exact ⟨ret_int (by unfold orI; rw [if_neg HQ.out]), rfl⟩
    · have ha := Lib.hid (h0.out (by omega))
      by_cases hq : b = 0
      · have hq' : (b != 0) = false := by simp [hq]
        have HQ := Lib.hid hq
        clear hq
        go_wp2
        go_round
        case rel => exact ⟨2, by omega, by go_num, fun _ => ha.out, fun _ => HQ.out⟩
        case measure => simp [intOf]
      · have hq' : (b != 0) = true := by simp [hq]
        have HQ := Lib.hid hq
        clear hq
        go_wp2
        go_ret
        exact ⟨ret_int (by unfold orI; rw [if_pos ha.out]), rfl⟩
    · have ha := Lib.hid (h0.out (by omega))
      have hb := Lib.hid (h1.out (by omega))
      go_wp2
      go_ret
      exact ⟨ret_int (by unfold orI; rw [if_pos ha.out, hb.out]), rfl⟩
theorem cmp_CompareS (a b : Int) (w : World) : Calls Tryz.prog 131 #[.int .i64 a, .int .i64 b] w fun e w' => e = .returned (.int .i64 (cmpI a b)) ∧ w' = w :=
  (cmp_Compare a b w).mono fun e w' ⟨h1, h2⟩ => ⟨h1, h2.symm⟩
set_option maxHeartbeats 400000 in
theorem point_Compare (ax ay bx bx' : Int) (w : World) : Calls Tryz.prog 111 #[.agg #[.int .i64 ax, .int .i64 ay], .agg #[.int .i64 bx, .int .i64 bx']] w fun e w' => e = .returned (.int .i64 (cmpP ax ay bx bx')) ∧ Below w.heap.size w w' := by
  go_enter Tryz.func111, Tryz.ntmps111
  go_wp2
  refine wp_region_still_tail 10 (by kernel_rfl) (by kernel_rfl) ?_
  simp only [List.take_succ_cons, List.take_zero, List.drop_succ_cons, List.drop_zero]
  change wpStill _ _ (World.drew _) (fun a' => wpList _ _ _ _ a' (World.drew _)) _ _
  have hb : Below (w.heap.size + 2) ((w.alloc (.cells #[.int .i64 ax, .int .i64 ay] 66)).alloc (.cells #[.int .i64 bx, .int .i64 bx'] 66)) ((w.alloc (.cells #[.int .i64 ax, .int .i64 ay] 66)).alloc (.cells #[.int .i64 bx, .int .i64 bx'] 66)).drew := (Below.refl _ _).drew
  generalize ((w.alloc (.cells #[.int .i64 ax, .int .i64 ay] 66)).alloc (.cells #[.int .i64 bx, .int .i64 bx'] 66)).drew = W at hb ⊢
  have hs := hb.size
  simp only [World.size_alloc] at hs
  have c0 : W.cell? ⟨w.heap.size, 0, none⟩ = some (.int .i64 ax) := by rw [hb.cell (p := ⟨w.heap.size, 0, none⟩) (by show w.heap.size < _; omega)]; simp [cell_alloc_if, cellOf]
  have c1 : W.cell? ⟨w.heap.size, 1, none⟩ = some (.int .i64 ay) := by rw [hb.cell (p := ⟨w.heap.size, 1, none⟩) (by show w.heap.size < _; omega)]; simp [cell_alloc_if, cellOf]
  have c2 : W.cell? ⟨w.heap.size + 1, 0, none⟩ = some (.int .i64 bx) := by rw [hb.cell (p := ⟨w.heap.size + 1, 0, none⟩) (by show w.heap.size + 1 < _; omega)]; simp [cell_alloc_if, cellOf]
  have c3 : W.cell? ⟨w.heap.size + 1, 1, none⟩ = some (.int .i64 bx') := by rw [hb.cell (p := ⟨w.heap.size + 1, 1, none⟩) (by show w.heap.size + 1 < _; omega)]; simp [cell_alloc_if, cellOf]
  repeat still_step
  still_call (cmp_CompareS _ _ _)
  repeat still_step
  still_call (cmp_CompareS _ _ _)
  refine wpStill_nil ?_
  have hl := (Own.lit encI_len W 3 W.heap.size (Nat.le_refl _) [cmpI ay bx', cmpI ax bx] 2 rfl (by omega) [.int .i64 (cmpI ay bx'), .int .i64 (cmpI ax bx)] rfl).rd encI_len
  show wpList _ _ _ _ _ _
  go_wp2_with fail
  go_at_call 130
  refine (cmp_Or2 _ _ _ _ _ hl).mono ?_
  rintro e w' ⟨rfl, rfl⟩
  go_wp2_with fail
  go_ret
  exact ⟨rfl, by (repeat' (first | exact Below.refl _ _ | assumption | (refine Below.alloc ?_ ?_ _) | (refine Below.setCell ?_ ?_ _) | (refine Below.drew ?_) | (refine below_drewN ?_ _) | (refine below_after (Ext.below _) ?_ ?_) | (refine below_after (by assumption) ?_ ?_) | (simp; done) | omega | (simp; omega)))⟩
end Go.Proofs.YtmenokhnanghgaaGreat
end
section
namespace Go.Proofs.YtmenokhnanghgaaGreat
open Go Go.RowKit
theorem eq_pt (x y x' y' : Int) (w : World) : (binOp .eql 66 (.agg #[.int .i64 x, .int .i64 y]) (.agg #[.int .i64 x', .int .i64 y'])).run Tryz.prog w = .ok (.bool (decide (x = x' ∧ y = y'))) w := by
  have u3 := Tryz.underlying3
  have a3 := Tryz.isAgg3
  have z3 := Tryz.sizeOf3
  have hS : Tryz.prog.underlying 66 = some (.struct (Tryz.prog.fieldsOf 66)) := by kernel_rfl
  have hp : Tryz.prog.stoodInHeld 66 = false := by kernel_rfl
  rw [run_eql_struct, show (10000 : Nat) = 9999 + 1 from rfl, run_equalIn_agg w 9999 66 _ _ hS hp]
  simp only [Program.fieldsOf, Tryz.underlying66]
  go_simp
  by_cases h1 : x = x' <;> by_cases h2 : y = y' <;> simp [h1, h2]
theorem neq_pt (x y x' y' : Int) (w : World) : (binOp .neq 66 (.agg #[.int .i64 x, .int .i64 y]) (.agg #[.int .i64 x', .int .i64 y'])).run Tryz.prog w = .ok (.bool (!decide (x = x' ∧ y = y'))) w := by
  have h := eq_pt x y x' y' w
  rw [run_eql_struct] at h
  rw [run_neq_struct]
  generalize (Op.equalIn 10000 66 (.agg #[.int .i64 x, .int .i64 y]) (.agg #[.int .i64 x', .int .i64 y'])).run Tryz.prog w = r at *
  cases r <;> simp_all [Result.andThen]
theorem eq_arr4 (x y z u x' y' z' u' : Int) (w : World) : (binOp .eql 67 (.agg #[.int .i64 x, .int .i64 y, .int .i64 z, .int .i64 u]) (.agg #[.int .i64 x', .int .i64 y', .int .i64 z', .int .i64 u'])).run Tryz.prog w = .ok (.bool (decide (x = x' ∧ y = y' ∧ z = z' ∧ u = u'))) w := by
  have u3 := Tryz.underlying3
  have a3 := Tryz.isAgg3
  have z3 := Tryz.sizeOf3
  obtain ⟨i, hi, _⟩ := info_parts (show (Tryz.prog.info? 3).map (fun i => (i.zero, i.size, i.bytes)) = some (some (.int .i64 0), 1, 8) by kernel_rfl)
  rw [run_eql_struct, show (10000 : Nat) = 9999 + 1 from rfl, run_equalIn_array w 9999 _ _ Tryz.underlying67 hi]
  have c3 : Tryz.prog.cellsOf 3 = 1 := by kernel_rfl
  rw [c3, show List.range 4 = [0, 1, 2, 3] from rfl]
  simp only [Op.eqItems]
  go_simp
  by_cases h1 : x = x' <;> by_cases h2 : y = y' <;> by_cases h3 : z = z' <;> by_cases h4 : u = u' <;> simp [h1, h2, h3, h4]
end Go.Proofs.YtmenokhnanghgaaGreat
end
section
namespace Go.Proofs.YtmenokhnanghgaaGreat
open Go Go.RowKit
set_option maxRecDepth 100000
theorem eq_cl (x y s x' y' s' : Int) (w : World) : (binOp .eql 63 (.agg #[.int .i64 x, .int .i64 y, .int .i64 s]) (.agg #[.int .i64 x', .int .i64 y', .int .i64 s'])).run Tryz.prog w = .ok (.bool (decide (x = x' ∧ y = y' ∧ s = s'))) w := by
  have u3 := Tryz.underlying3
  have a3 := Tryz.isAgg3
  have z3 := Tryz.sizeOf3
  have hS : Tryz.prog.underlying 63 = some (.struct (Tryz.prog.fieldsOf 63)) := by kernel_rfl
  have hp : Tryz.prog.stoodInHeld 63 = false := by kernel_rfl
  rw [run_eql_struct, show (10000 : Nat) = 9999 + 1 from rfl, run_equalIn_agg w 9999 63 _ _ hS hp]
  simp only [Program.fieldsOf, Tryz.underlying63]
  go_simp
  by_cases h1 : x = x' <;> by_cases h2 : y = y' <;> by_cases h3 : s = s' <;> simp [h1, h2, h3]
theorem neq_cl (x y s x' y' s' : Int) (w : World) : (binOp .neq 63 (.agg #[.int .i64 x, .int .i64 y, .int .i64 s]) (.agg #[.int .i64 x', .int .i64 y', .int .i64 s'])).run Tryz.prog w = .ok (.bool (!decide (x = x' ∧ y = y' ∧ s = s'))) w := by
  have h := eq_cl x y s x' y' s' w
  rw [run_eql_struct] at h
  rw [run_neq_struct]
  generalize (Op.equalIn 10000 63 (.agg #[.int .i64 x, .int .i64 y, .int .i64 s]) (.agg #[.int .i64 x', .int .i64 y', .int .i64 s'])).run Tryz.prog w = r at *
  cases r <;> simp_all [Result.andThen]
attribute [local go_sem ↓ high] eq_cl neq_cl eq_pt neq_pt
theorem pat_at (x y s : Int) (w : World) : Calls Tryz.prog 79 #[.agg #[.int .i64 x, .int .i64 y, .int .i64 s]] w fun e w' => e = .returned (.agg #[.int .i64 x, .int .i64 y]) ∧ Below w.heap.size w w' := by
  go_enter Tryz.func79, Tryz.ntmps79
  go_wp2
  refine bodyPost_ret (v := .agg #[.int .i64 x, .int .i64 y]) (by simp [results, Tryz.results79, go_sem, *, ↓IntWalk.iteOmega]) rfl ?_
  exact ⟨rfl, by (repeat' (first | exact Below.refl _ _ | assumption | (refine Below.alloc ?_ ?_ _) | (refine Below.setCell ?_ ?_ _) | (refine Below.drew ?_) | (refine below_drewN ?_ _) | (refine below_after (Ext.below _) ?_ ?_) | (refine below_after (by assumption) ?_ ?_) | (simp; done) | omega | (simp; omega)))⟩
theorem pat_placed (x y : Int) (w : World) : Calls Tryz.prog 78 #[.agg #[.int .i64 x, .int .i64 y]] w fun e w' => e = .returned (.bool (validB x y)) ∧ Below w.heap.size w w' := by
  go_enter Tryz.func78, Tryz.ntmps78
  go_wp2
  all_goals (go_ret; refine ⟨ret_bool ?_, by (repeat' (first | exact Below.refl _ _ | assumption | (refine Below.alloc ?_ ?_ _) | (refine Below.setCell ?_ ?_ _) | (refine Below.drew ?_) | (refine below_drewN ?_ _) | (refine below_after (Ext.below _) ?_ ?_) | (refine below_after (by assumption) ?_ ?_) | (simp; done) | omega | (simp; omega)))⟩; rw [Bool.eq_iff_iff]; simp [validB]; try omega)
theorem pat_placedV {x y : Int} {q : Bool} (h : validB x y = q) (w : World) : Calls Tryz.prog 78 #[.agg #[.int .i64 x, .int .i64 y]] w fun e w' => e = .returned (.bool q) ∧ Below w.heap.size w w' := by
  rw [← h]; exact pat_placed x y w
theorem pat_order (x y s x' y' s' : Int) (w : World) : Calls Tryz.prog 80 #[.agg #[.int .i64 x, .int .i64 y, .int .i64 s], .agg #[.int .i64 x', .int .i64 y', .int .i64 s']] w fun e w' => e = .returned (.int .i64 (cmpP x y x' y')) ∧ Below w.heap.size w w' := by
  go_enter Tryz.func80, Tryz.ntmps80
  go_wp2
  (refine wp_region_ext_lit (by kernel_rfl) (by kernel_rfl) ?_; (repeat (go_big_quiet_step (first | (go_at_call 79; exact calls_ext (pat_at _ _ _ _)) | (go_at_call 111; exact calls_ext (point_Compare _ _ _ _ _))))); refine wpQuiet_nil ?_; intro _ hw'; obtain ⟨z1, hw''⟩ := hw'; subst hw''; have hs1 := z1.size; obtain ⟨hc1, hf1⟩ := bcell z1.below; (try simp only [World.size_alloc, World.size_setCell, World.size_drew] at hc1 hf1); (try simp at hs1))
  go_wp2
  go_ret
  exact ⟨rfl, by (repeat' (first | exact Below.refl _ _ | assumption | (refine Below.alloc ?_ ?_ _) | (refine Below.setCell ?_ ?_ _) | (refine Below.drew ?_) | (refine below_drewN ?_ _) | (refine below_after (Ext.below _) ?_ ?_) | (refine below_after (by assumption) ?_ ?_) | (simp; done) | omega | (simp; omega)))⟩
theorem ref05_Place (x y : Int) (w : World) : Calls Tryz.prog 84 #[.int .i64 x, .int .i64 y] w fun e w' => e = .returned (.bool (validB x y)) ∧ w = w' := by
  go_enter Tryz.func84, Tryz.ntmps84
  go_wp2
  all_goals (go_ret; refine ⟨ret_bool ?_, rfl⟩; rw [Bool.eq_iff_iff]; simp [validB]; try omega)
theorem ref05_PlaceV {x y : Int} {q : Bool} (h : validB x y = q) (w : World) : Calls Tryz.prog 84 #[.int .i64 x, .int .i64 y] w fun e w' => e = .returned (.bool q) ∧ w = w' := by
  rw [← h]; exact ref05_Place x y w
set_option maxHeartbeats 400000 in
theorem ref05_before (x y s x' y' s' : Int) (w : World) : Calls Tryz.prog 85 #[.agg #[.int .i64 x, .int .i64 y, .int .i64 s], .agg #[.int .i64 x', .int .i64 y', .int .i64 s']] w fun e w' => e = .returned (.bool (befP x y x' y')) ∧ Below w.heap.size w w' := by
  go_enter Tryz.func85, Tryz.ntmps85
  go_wp2
  all_goals (go_ret; refine ⟨ret_bool ?_, by (repeat' (first | exact Below.refl _ _ | assumption | (refine Below.alloc ?_ ?_ _) | (refine Below.setCell ?_ ?_ _) | (refine Below.drew ?_) | (refine below_drewN ?_ _) | (refine below_after (Ext.below _) ?_ ?_) | (refine below_after (by assumption) ?_ ?_) | (simp; done) | omega | (simp; omega)))⟩; (try simp only [Bool.not_eq_eq_eq_not, Bool.not_true, Bool.not_false, decide_eq_false_iff_not, decide_eq_true_eq, Int.not_le, Int.not_lt] at *); rw [Bool.eq_iff_iff]; simp [befP]; try omega)
theorem ref05_beforeV {x y x' y' : Int} {q : Bool} (h : befP x y x' y' = q) (s s' : Int) (w : World) : Calls Tryz.prog 85 #[.agg #[.int .i64 x, .int .i64 y, .int .i64 s], .agg #[.int .i64 x', .int .i64 y', .int .i64 s']] w fun e w' => e = .returned (.bool q) ∧ Below w.heap.size w w' := by
  rw [← h]; exact ref05_before x y s x' y' s' w
theorem ref05_order (a b : Int) (w : World) : Calls Tryz.prog 95 #[.int .i64 a, .int .i64 b] w fun e w' => e = .returned (.int .i64 (cmpI a b)) ∧ w = w' := by
  go_enter Tryz.func95, Tryz.ntmps95
  go_wp2
  all_goals (go_ret; exact ⟨ret_int (by unfold cmpI; (repeat' split) <;> omega), rfl⟩)
end Go.Proofs.YtmenokhnanghgaaGreat
end
section
namespace Go.Proofs.YtmenokhnanghgaaGreat
open Go Go.RowKit
set_option maxRecDepth 100000
attribute [local go_sem ↓ high] eq_cl neq_cl eq_pt neq_pt
theorem ord_bef {a b x y : Int} {q : Bool} (h : befP a b x y = q) : decide (0 ≤ cmpP a b x y) = !q := by rw [← h]; exact cmpP_bef a b x y
/-- The ways of one cell's test. -/
theorem okC_ways {l : List (Int × Int × Int)} {j : Nat} {x y s : Int} (hx : l[j]? = some (x, y, s)) :
    (validB x y = false ∧ okC l j = false) ∨ (validB x y = true ∧ s < 1 ∧ okC l j = false) ∨ (validB x y = true ∧ 1 ≤ s ∧ 8 ≤ s ∧ okC l j = false) ∨ (validB x y = true ∧ 1 ≤ s ∧ s ≤ 7 ∧ j = 0 ∧ okC l j = true) ∨
    (validB x y = true ∧ 1 ≤ s ∧ s ≤ 7 ∧ 0 < j ∧ ∃ a b c, l[j - 1]? = some (a, b, c) ∧ okC l j = befP a b x y) := by
  cases hv : validB x y with
  | false => exact .inl ⟨rfl, okC_place hx hv⟩
  | true =>
    by_cases h1 : s < 1
    · exact .inr (.inl ⟨rfl, h1, okC_state hx (.inl h1)⟩)
    · by_cases h2 : 8 ≤ s
      · exact .inr (.inr (.inl ⟨rfl, by omega, h2, okC_state hx (.inr (by omega))⟩))
      · rcases Nat.eq_zero_or_pos j with rfl | h0
        · exact .inr (.inr (.inr (.inl ⟨rfl, by omega, by omega, rfl, okC_first hx hv ⟨by omega, by omega⟩⟩)))
        · have hl := (List.getElem?_eq_some_iff.1 hx).1
          refine .inr (.inr (.inr (.inr ⟨rfl, by omega, by omega, h0, _, _, _, List.getElem?_eq_getElem (by omega), okC_next h0 hx (List.getElem?_eq_getElem (by omega)) hv ⟨by omega, by omega⟩⟩)))
set_option maxHeartbeats 2000000 in
theorem pat_Right (A : Option Addr) (n c : Nat) (l : List (Int × Int × Int)) (w : World) (hR : Rd encC 3 w A n l) (hn : n ≤ 9223372036854775807) :
    Calls Tryz.prog 34 #[.slice A n c] w fun e w' => e = .returned (.bool (rightC l)) ∧ Below w.heap.size w w' := by
  rcases Nat.lt_or_ge 5000 n with h5 | h5
  · have HV := Lib.hid (rightC_len hR.len h5)
    go_enter Tryz.func34, Tryz.ntmps34
    go_wp2
    go_ret
    exact ⟨ret_bool HV.out.symm, by (repeat' (first | exact Below.refl _ _ | assumption | (refine Below.alloc ?_ ?_ _) | (refine Below.setCell ?_ ?_ _) | (refine Below.drew ?_) | (refine below_drewN ?_ _) | (refine below_after (Ext.below _) ?_ ?_) | (refine below_after (by assumption) ?_ ?_) | (simp; done) | omega | (simp; omega)))⟩
  · go_enter Tryz.func34, Tryz.ntmps34
    go_wp2
    go_loopw [10] (fun i wr => ∃ j : Nat, j ≤ n ∧ i = .int .i64 j ∧ Below w.heap.size w wr ∧ Hid (∀ r, r < j → okC l r = true)) (fun i _ => n - (intOf i).toNat)
    case atStart => exact ⟨0, by omega, rfl, Below.refl _ _, fun r hr => absurd hr (by omega)⟩
    case round =>
      obtain ⟨j, hj, rfl, hb, hno⟩ := hrel
      obtain ⟨hc, hf⟩ := bcell hb
      have hs := hb.size
      by_cases hlt : j < n
      · obtain ⟨x, y, s, bo, o, hx, rfl, hbl, hcell, hcell2, hcell3⟩ := hR.cell hlt
        rcases okC_ways hx.out with ⟨hv, ho⟩ | ⟨hv, h1, ho⟩ | ⟨hv, h1, h2, ho⟩ | ⟨hv, h1, h2, hj0, ho⟩ | ⟨hv, h1, h2, h0, a, b, c', hp, ho⟩
        · have HB := Lib.hid (rightC_bad hR.len hlt ho)
          have kP := fun w1 => pat_placedV hv w1
          clear hv ho
          go_wp2
          (refine wp_region_ext_lit (by kernel_rfl) (by kernel_rfl) ?_; (repeat (go_big_quiet_step (first | (go_at_call 79; exact calls_ext (pat_at _ _ _ _)) | (go_at_call 78; exact calls_ext (kP _))))); refine wpQuiet_nil ?_; intro _ hw'; obtain ⟨z1, hw''⟩ := hw'; subst hw''; have hs1 := z1.size; obtain ⟨hc1, hf1⟩ := bcell z1.below; (try simp only [World.size_alloc, World.size_setCell, World.size_drew] at hc1 hf1); (try simp at hs1))
          go_wp2
          go_ret
          exact ⟨ret_bool HB.out.symm, by (repeat' (first | exact Below.refl _ _ | assumption | (refine Below.alloc ?_ ?_ _) | (refine Below.setCell ?_ ?_ _) | (refine Below.drew ?_) | (refine below_drewN ?_ _) | (refine below_after (Ext.below _) ?_ ?_) | (refine below_after (by assumption) ?_ ?_) | (simp; done) | omega | (simp; omega)))⟩
        · have HB := Lib.hid (rightC_bad hR.len hlt ho)
          have kP := fun w1 => pat_placedV hv w1
          have d1 : decide (s < 1) = true := decide_eq_true h1
          clear hv ho
          go_wp2
          (refine wp_region_ext_lit (by kernel_rfl) (by kernel_rfl) ?_; (repeat (go_big_quiet_step (first | (go_at_call 79; exact calls_ext (pat_at _ _ _ _)) | (go_at_call 78; exact calls_ext (kP _))))); refine wpQuiet_nil ?_; intro _ hw'; obtain ⟨z1, hw''⟩ := hw'; subst hw''; have hs1 := z1.size; obtain ⟨hc1, hf1⟩ := bcell z1.below; (try simp only [World.size_alloc, World.size_setCell, World.size_drew] at hc1 hf1); (try simp at hs1))
          go_wp2
          go_ret
          exact ⟨ret_bool HB.out.symm, by (repeat' (first | exact Below.refl _ _ | assumption | (refine Below.alloc ?_ ?_ _) | (refine Below.setCell ?_ ?_ _) | (refine Below.drew ?_) | (refine below_drewN ?_ _) | (refine below_after (Ext.below _) ?_ ?_) | (refine below_after (by assumption) ?_ ?_) | (simp; done) | omega | (simp; omega)))⟩
        · have HB := Lib.hid (rightC_bad hR.len hlt ho)
          have kP := fun w1 => pat_placedV hv w1
          have d1 : decide (s < 1) = false := decide_eq_false (by omega)
          have d2 : decide (8 ≤ s) = true := decide_eq_true h2
          clear hv ho
          go_wp2
          (refine wp_region_ext_lit (by kernel_rfl) (by kernel_rfl) ?_; (repeat (go_big_quiet_step (first | (go_at_call 79; exact calls_ext (pat_at _ _ _ _)) | (go_at_call 78; exact calls_ext (kP _))))); refine wpQuiet_nil ?_; intro _ hw'; obtain ⟨z1, hw''⟩ := hw'; subst hw''; have hs1 := z1.size; obtain ⟨hc1, hf1⟩ := bcell z1.below; (try simp only [World.size_alloc, World.size_setCell, World.size_drew] at hc1 hf1); (try simp at hs1))
          go_wp2
          go_ret
          exact ⟨ret_bool HB.out.symm, by (repeat' (first | exact Below.refl _ _ | assumption | (refine Below.alloc ?_ ?_ _) | (refine Below.setCell ?_ ?_ _) | (refine Below.drew ?_) | (refine below_drewN ?_ _) | (refine below_after (Ext.below _) ?_ ?_) | (refine below_after (by assumption) ?_ ?_) | (simp; done) | omega | (simp; omega)))⟩
        · have HO := Lib.hid ho
          have kP := fun w1 => pat_placedV hv w1
          have d1 : decide (s < 1) = false := decide_eq_false (by omega)
          have d2 : decide (8 ≤ s) = false := decide_eq_false (by omega)
          have d3 : decide ((0 : Int) < j) = false := decide_eq_false (by omega)
          have d3' : decide (0 < j) = false := decide_eq_false (by omega)
          clear hv ho hj0
          go_wp2
          (refine wp_region_ext_lit (by kernel_rfl) (by kernel_rfl) ?_; (repeat (go_big_quiet_step (first | (go_at_call 79; exact calls_ext (pat_at _ _ _ _)) | (go_at_call 78; exact calls_ext (kP _))))); refine wpQuiet_nil ?_; intro _ hw'; obtain ⟨z1, hw''⟩ := hw'; subst hw''; have hs1 := z1.size; obtain ⟨hc1, hf1⟩ := bcell z1.below; (try simp only [World.size_alloc, World.size_setCell, World.size_drew] at hc1 hf1); (try simp at hs1))
          go_wp2
          go_roundw
          case rel => exact ⟨j + 1, by omega, by go_num, (by (repeat' (first | exact Below.refl _ _ | assumption | (refine Below.alloc ?_ ?_ _) | (refine Below.setCell ?_ ?_ _) | (refine Below.drew ?_) | (refine below_drewN ?_ _) | (refine below_after (Ext.below _) ?_ ?_) | (refine below_after (by assumption) ?_ ?_) | (simp; done) | omega | (simp; omega)))), okC_step hno.out HO.out⟩
          case measure => simp [intOf]; omega
        · have kP := fun w1 => pat_placedV hv w1
          have d1 : decide (s < 1) = false := decide_eq_false (by omega)
          have d2 : decide (8 ≤ s) = false := decide_eq_false (by omega)
          have d3 : decide ((0 : Int) < j) = true := decide_eq_true (by omega)
          have d3' : decide (0 < j) = true := decide_eq_true (by omega)
          obtain ⟨a', b', c2, bo', o', hp', he, hbl', g1, g2, g3⟩ := hR.cell (i := j - 1) (by omega)
          obtain ⟨rfl, rfl⟩ : bo = bo' ∧ o = o' := by injection he with he; injection he with e1 e2; exact ⟨e1, e2⟩
          obtain ⟨rfl, rfl, rfl⟩ : a = a' ∧ b = b' ∧ c' = c2 := by have := hp'.out; rw [hp] at this; simpa using this
          have hkm : ((j : Int) - 1).toNat = j - 1 := by omega
          have hk0 : (0 : Int) ≤ (j : Int) - 1 := by omega
          have wk : IntKind.i64.wrap ((j : Int) - 1) = (j : Int) - 1 := IntWalk.i64_in _ (by omega)
          clear he hp hp' hv
          cases hq : befP a b x y with
          | false =>
            have HB := Lib.hid (rightC_bad hR.len hlt (ho.trans hq))
            have d4 : decide (0 ≤ cmpP a b x y) = true := ord_bef hq
            clear ho hq
            go_wp2
            (refine wp_region_ext_lit (by kernel_rfl) (by kernel_rfl) ?_; (repeat (go_big_quiet_step (first | (go_at_call 79; exact calls_ext (pat_at _ _ _ _)) | (go_at_call 78; exact calls_ext (kP _)) | (go_at_call 80; exact calls_ext (pat_order _ _ _ _ _ _ _))))); refine wpQuiet_nil ?_; intro _ hw'; obtain ⟨z1, hw''⟩ := hw'; subst hw''; have hs1 := z1.size; obtain ⟨hc1, hf1⟩ := bcell z1.below; (try simp only [World.size_alloc, World.size_setCell, World.size_drew] at hc1 hf1); (try simp at hs1))
            go_wp2
            go_ret
            exact ⟨ret_bool HB.out.symm, by (repeat' (first | exact Below.refl _ _ | assumption | (refine Below.alloc ?_ ?_ _) | (refine Below.setCell ?_ ?_ _) | (refine Below.drew ?_) | (refine below_drewN ?_ _) | (refine below_after (Ext.below _) ?_ ?_) | (refine below_after (by assumption) ?_ ?_) | (simp; done) | omega | (simp; omega)))⟩
          | true =>
            have HO := Lib.hid (ho.trans hq)
            have d4 : decide (0 ≤ cmpP a b x y) = false := ord_bef hq
            clear ho hq
            go_wp2
            (refine wp_region_ext_lit (by kernel_rfl) (by kernel_rfl) ?_; (repeat (go_big_quiet_step (first | (go_at_call 79; exact calls_ext (pat_at _ _ _ _)) | (go_at_call 78; exact calls_ext (kP _)) | (go_at_call 80; exact calls_ext (pat_order _ _ _ _ _ _ _))))); refine wpQuiet_nil ?_; intro _ hw'; obtain ⟨z1, hw''⟩ := hw'; subst hw''; have hs1 := z1.size; obtain ⟨hc1, hf1⟩ := bcell z1.below; (try simp only [World.size_alloc, World.size_setCell, World.size_drew] at hc1 hf1); (try simp at hs1))
            go_wp2
            go_roundw
            case rel => exact ⟨j + 1, by omega, by go_num, (by (repeat' (first | exact Below.refl _ _ | assumption | (refine Below.alloc ?_ ?_ _) | (refine Below.setCell ?_ ?_ _) | (refine Below.drew ?_) | (refine below_drewN ?_ _) | (refine below_after (Ext.below _) ?_ ?_) | (refine below_after (by assumption) ?_ ?_) | (simp; done) | omega | (simp; omega)))), okC_step hno.out HO.out⟩
            case measure => simp [intOf]; omega
      · obtain rfl : j = n := by omega
        go_wp2
        go_ret
        exact ⟨ret_bool (rightC_all hR.len h5 hno.out).symm, by (repeat' (first | exact Below.refl _ _ | assumption | (refine Below.alloc ?_ ?_ _) | (refine Below.setCell ?_ ?_ _) | (refine Below.drew ?_) | (refine below_drewN ?_ _) | (refine below_after (Ext.below _) ?_ ?_) | (refine below_after (by assumption) ?_ ?_) | (simp; done) | omega | (simp; omega)))⟩
end Go.Proofs.YtmenokhnanghgaaGreat
end
section
namespace Go.Proofs.YtmenokhnanghgaaGreat
open Go Go.RowKit
set_option maxRecDepth 100000
attribute [local go_sem ↓ high] eq_cl neq_cl eq_pt neq_pt
set_option maxHeartbeats 2000000 in
theorem ref05_Right (A : Option Addr) (n c : Nat) (l : List (Int × Int × Int)) (w : World) (hR : Rd encC 3 w A n l) (hn : n ≤ 9223372036854775807) :
    Calls Tryz.prog 38 #[.slice A n c] w fun e w' => e = .returned (.bool (rightC l)) ∧ Below w.heap.size w w' := by
  go_enter Tryz.func38, Tryz.ntmps38
  go_wp2
  go_loopw [3] (fun i wr => ∃ j : Nat, j ≤ n ∧ i = .int .i64 j ∧ Below w.heap.size w wr ∧ Hid (∀ r, r < j → okC l r = true)) (fun i _ => n - (intOf i).toNat)
  case atStart => exact ⟨0, by omega, rfl, Below.refl _ _, fun r hr => absurd hr (by omega)⟩
  case round =>
    obtain ⟨j, hj, rfl, hb, hno⟩ := hrel
    obtain ⟨hc, hf⟩ := bcell hb
    have hs := hb.size
    by_cases hlt : j < n
    · obtain ⟨x, y, s, bo, o, hx, rfl, hbl, hcell, hcell2, hcell3⟩ := hR.cell hlt
      rcases okC_ways hx.out with ⟨hv, ho⟩ | ⟨hv, h1, ho⟩ | ⟨hv, h1, h2, ho⟩ | ⟨hv, h1, h2, hj0, ho⟩ | ⟨hv, h1, h2, h0, a, b, c', hp, ho⟩
      · have HB := Lib.hid (rightC_bad hR.len hlt ho)
        have kP := fun w1 => ref05_PlaceV hv w1
        clear hv ho
        go_wp2
        (refine wp_region_ext_lit (by kernel_rfl) (by kernel_rfl) ?_; (repeat (go_big_quiet_step ((go_at_call 84; exact calls_ext_same (kP _))))); refine wpQuiet_nil ?_; intro _ hw'; obtain ⟨z1, hw''⟩ := hw'; subst hw''; have hs1 := z1.size; obtain ⟨hc1, hf1⟩ := bcell z1.below; (try simp only [World.size_alloc, World.size_setCell, World.size_drew] at hc1 hf1); (try simp at hs1))
        go_wp2
        go_ret
        exact ⟨ret_bool HB.out.symm, by (repeat' (first | exact Below.refl _ _ | assumption | (refine Below.alloc ?_ ?_ _) | (refine Below.setCell ?_ ?_ _) | (refine Below.drew ?_) | (refine below_drewN ?_ _) | (refine below_after (Ext.below _) ?_ ?_) | (refine below_after (by assumption) ?_ ?_) | (simp; done) | omega | (simp; omega)))⟩
      · have HB := Lib.hid (rightC_bad hR.len hlt ho)
        have kP := fun w1 => ref05_PlaceV hv w1
        have d1 : decide (s < 1) = true := decide_eq_true h1
        clear hv ho
        go_wp2
        (refine wp_region_ext_lit (by kernel_rfl) (by kernel_rfl) ?_; (repeat (go_big_quiet_step ((go_at_call 84; exact calls_ext_same (kP _))))); refine wpQuiet_nil ?_; intro _ hw'; obtain ⟨z1, hw''⟩ := hw'; subst hw''; have hs1 := z1.size; obtain ⟨hc1, hf1⟩ := bcell z1.below; (try simp only [World.size_alloc, World.size_setCell, World.size_drew] at hc1 hf1); (try simp at hs1))
        go_wp2
        go_ret
        exact ⟨ret_bool HB.out.symm, by (repeat' (first | exact Below.refl _ _ | assumption | (refine Below.alloc ?_ ?_ _) | (refine Below.setCell ?_ ?_ _) | (refine Below.drew ?_) | (refine below_drewN ?_ _) | (refine below_after (Ext.below _) ?_ ?_) | (refine below_after (by assumption) ?_ ?_) | (simp; done) | omega | (simp; omega)))⟩
      · have HB := Lib.hid (rightC_bad hR.len hlt ho)
        have kP := fun w1 => ref05_PlaceV hv w1
        have d1 : decide (s < 1) = false := decide_eq_false (by omega)
        have d2 : decide (8 ≤ s) = true := decide_eq_true h2
        clear hv ho
        go_wp2
        (refine wp_region_ext_lit (by kernel_rfl) (by kernel_rfl) ?_; (repeat (go_big_quiet_step ((go_at_call 84; exact calls_ext_same (kP _))))); refine wpQuiet_nil ?_; intro _ hw'; obtain ⟨z1, hw''⟩ := hw'; subst hw''; have hs1 := z1.size; obtain ⟨hc1, hf1⟩ := bcell z1.below; (try simp only [World.size_alloc, World.size_setCell, World.size_drew] at hc1 hf1); (try simp at hs1))
        go_wp2
        go_ret
        exact ⟨ret_bool HB.out.symm, by (repeat' (first | exact Below.refl _ _ | assumption | (refine Below.alloc ?_ ?_ _) | (refine Below.setCell ?_ ?_ _) | (refine Below.drew ?_) | (refine below_drewN ?_ _) | (refine below_after (Ext.below _) ?_ ?_) | (refine below_after (by assumption) ?_ ?_) | (simp; done) | omega | (simp; omega)))⟩
      · have HO := Lib.hid ho
        have kP := fun w1 => ref05_PlaceV hv w1
        have d1 : decide (s < 1) = false := decide_eq_false (by omega)
        have d2 : decide (8 ≤ s) = false := decide_eq_false (by omega)
        have d3 : decide ((0 : Int) < j) = false := decide_eq_false (by omega)
        have d3' : decide (0 < j) = false := decide_eq_false (by omega)
        clear hv ho hj0
        go_wp2
        (refine wp_region_ext_lit (by kernel_rfl) (by kernel_rfl) ?_; (repeat (go_big_quiet_step ((go_at_call 84; exact calls_ext_same (kP _))))); refine wpQuiet_nil ?_; intro _ hw'; obtain ⟨z1, hw''⟩ := hw'; subst hw''; have hs1 := z1.size; obtain ⟨hc1, hf1⟩ := bcell z1.below; (try simp only [World.size_alloc, World.size_setCell, World.size_drew] at hc1 hf1); (try simp at hs1))
        go_wp2
        go_roundw
        case rel => exact ⟨j + 1, by omega, by go_num, (by (repeat' (first | exact Below.refl _ _ | assumption | (refine Below.alloc ?_ ?_ _) | (refine Below.setCell ?_ ?_ _) | (refine Below.drew ?_) | (refine below_drewN ?_ _) | (refine below_after (Ext.below _) ?_ ?_) | (refine below_after (by assumption) ?_ ?_) | (simp; done) | omega | (simp; omega)))), okC_step hno.out HO.out⟩
        case measure => simp [intOf]; omega
      · have kP := fun w1 => ref05_PlaceV hv w1
        have d1 : decide (s < 1) = false := decide_eq_false (by omega)
        have d2 : decide (8 ≤ s) = false := decide_eq_false (by omega)
        have d3 : decide ((0 : Int) < j) = true := decide_eq_true (by omega)
        have d3' : decide (0 < j) = true := decide_eq_true (by omega)
        obtain ⟨a', b', c2, bo', o', hp', he, hbl', g1, g2, g3⟩ := hR.cell (i := j - 1) (by omega)
        obtain ⟨rfl, rfl⟩ : bo = bo' ∧ o = o' := by injection he with he; injection he with e1 e2; exact ⟨e1, e2⟩
        obtain ⟨rfl, rfl, rfl⟩ : a = a' ∧ b = b' ∧ c' = c2 := by have := hp'.out; rw [hp] at this; simpa using this
        have hkm : ((j : Int) - 1).toNat = j - 1 := by omega
        have hk0 : (0 : Int) ≤ (j : Int) - 1 := by omega
        have wk : IntKind.i64.wrap ((j : Int) - 1) = (j : Int) - 1 := IntWalk.i64_in _ (by omega)
        clear he hp hp' hv
        cases hq : befP a b x y with
        | false =>
          have HB := Lib.hid (rightC_bad hR.len hlt (ho.trans hq))
          have kB := fun s s1 w1 => ref05_beforeV hq s s1 w1
          clear ho hq
          go_wp2
          (refine wp_region_ext_lit (by kernel_rfl) (by kernel_rfl) ?_; (repeat (go_big_quiet_step (first | (go_at_call 84; exact calls_ext_same (kP _)) | (go_at_call 85; exact calls_ext (kB _ _ _))))); refine wpQuiet_nil ?_; intro _ hw'; obtain ⟨z1, hw''⟩ := hw'; subst hw''; have hs1 := z1.size; obtain ⟨hc1, hf1⟩ := bcell z1.below; (try simp only [World.size_alloc, World.size_setCell, World.size_drew] at hc1 hf1); (try simp at hs1))
          go_wp2
          go_ret
          exact ⟨ret_bool HB.out.symm, by (repeat' (first | exact Below.refl _ _ | assumption | (refine Below.alloc ?_ ?_ _) | (refine Below.setCell ?_ ?_ _) | (refine Below.drew ?_) | (refine below_drewN ?_ _) | (refine below_after (Ext.below _) ?_ ?_) | (refine below_after (by assumption) ?_ ?_) | (simp; done) | omega | (simp; omega)))⟩
        | true =>
          have HO := Lib.hid (ho.trans hq)
          have kB := fun s s1 w1 => ref05_beforeV hq s s1 w1
          clear ho hq
          go_wp2
          (refine wp_region_ext_lit (by kernel_rfl) (by kernel_rfl) ?_; (repeat (go_big_quiet_step (first | (go_at_call 84; exact calls_ext_same (kP _)) | (go_at_call 85; exact calls_ext (kB _ _ _))))); refine wpQuiet_nil ?_; intro _ hw'; obtain ⟨z1, hw''⟩ := hw'; subst hw''; have hs1 := z1.size; obtain ⟨hc1, hf1⟩ := bcell z1.below; (try simp only [World.size_alloc, World.size_setCell, World.size_drew] at hc1 hf1); (try simp at hs1))
          go_wp2
          go_roundw
          case rel => exact ⟨j + 1, by omega, by go_num, (by (repeat' (first | exact Below.refl _ _ | assumption | (refine Below.alloc ?_ ?_ _) | (refine Below.setCell ?_ ?_ _) | (refine Below.drew ?_) | (refine below_drewN ?_ _) | (refine below_after (Ext.below _) ?_ ?_) | (refine below_after (by assumption) ?_ ?_) | (simp; done) | omega | (simp; omega)))), okC_step hno.out HO.out⟩
          case measure => simp [intOf]; omega
    · obtain rfl : j = n := by omega
      have HV : Hid (decide ((j : Int) ≤ 5000) = rightC l) := by
        show _ = _
        by_cases h5 : j ≤ 5000
        · rw [rightC_all hR.len h5 hno.out]; exact decide_eq_true (by omega)
        · rw [rightC_len hR.len (by omega)]; exact decide_eq_false (by omega)
      go_wp2
      go_ret
      exact ⟨ret_bool HV.out, by (repeat' (first | exact Below.refl _ _ | assumption | (refine Below.alloc ?_ ?_ _) | (refine Below.setCell ?_ ?_ _) | (refine Below.drew ?_) | (refine below_drewN ?_ _) | (refine below_after (Ext.below _) ?_ ?_) | (refine below_after (by assumption) ?_ ?_) | (simp; done) | omega | (simp; omega)))⟩
set_option maxHeartbeats 1000000 in
theorem ref05_Get (A : Option Addr) (n c : Nat) (l : List (Int × Int × Int)) (x y : Int) (w : World) (hR : Rd encC 3 w A n l) (hn : n ≤ 1000000) :
    Calls Tryz.prog 142 #[.slice A n c, .int .i64 x, .int .i64 y] w fun e w' => e = .returned (.int .i64 (getC l x y)) ∧ Below w.heap.size w w' := by
  go_enter Tryz.func142, Tryz.ntmps142
  go_wp2
  go_loopw [7] (fun i wr => ∃ j : Nat, j ≤ n ∧ i = .int .i64 j ∧ Below w.heap.size w wr ∧ Hid (∀ r a b c, r < j → l[r]? = some (a, b, c) → ¬(a = x ∧ b = y))) (fun i _ => n - (intOf i).toNat)
  case atStart => exact ⟨0, by omega, rfl, Below.refl _ _, fun r a b c hr => absurd hr (by omega)⟩
  case round =>
    obtain ⟨j, hj, rfl, hb, hno⟩ := hrel
    obtain ⟨hc, hf⟩ := bcell hb
    have hs := hb.size
    by_cases hlt : j < n
    · obtain ⟨x', y', s', bo, o, hx, rfl, hbl, hcell, hcell2, hcell3⟩ := hR.cell hlt
      by_cases h1 : x' = x
      · by_cases h2 : y' = y
        · subst h1 h2
          have HV := Lib.hid (getC_found hno.out hx.out)
          go_wp2
          go_ret
          exact ⟨ret_int HV.out.symm, by (repeat' (first | exact Below.refl _ _ | assumption | (refine Below.alloc ?_ ?_ _) | (refine Below.setCell ?_ ?_ _) | (refine Below.drew ?_) | (refine below_drewN ?_ _) | (refine below_after (Ext.below _) ?_ ?_) | (refine below_after (by assumption) ?_ ?_) | (simp; done) | omega | (simp; omega)))⟩
        · have d1 : (x' == x) = true := by simp [h1]
          have d2 : (y' == y) = false := by simpa using h2
          have HN : Hid (∀ r a b c, r < j + 1 → l[r]? = some (a, b, c) → ¬(a = x ∧ b = y)) := by
            intro r a b c hr hy
            by_cases e : r = j
            · rw [e, hx.out] at hy; cases hy; exact fun h => h2 h.2
            · exact hno.out r a b c (by omega) hy
          clear h1 h2
          go_wp2
          go_roundw
          case rel => exact ⟨j + 1, by omega, by go_num, (by (repeat' (first | exact Below.refl _ _ | assumption | (refine Below.alloc ?_ ?_ _) | (refine Below.setCell ?_ ?_ _) | (refine Below.drew ?_) | (refine below_drewN ?_ _) | (refine below_after (Ext.below _) ?_ ?_) | (refine below_after (by assumption) ?_ ?_) | (simp; done) | omega | (simp; omega)))), HN.out⟩
          case measure => simp [intOf]; omega
      · have d1 : (x' == x) = false := by simpa using h1
        have HN : Hid (∀ r a b c, r < j + 1 → l[r]? = some (a, b, c) → ¬(a = x ∧ b = y)) := by
          intro r a b c hr hy
          by_cases e : r = j
          · rw [e, hx.out] at hy; cases hy; exact fun h => h1 h.1
          · exact hno.out r a b c (by omega) hy
        clear h1
        go_wp2
        go_roundw
        case rel => exact ⟨j + 1, by omega, by go_num, (by (repeat' (first | exact Below.refl _ _ | assumption | (refine Below.alloc ?_ ?_ _) | (refine Below.setCell ?_ ?_ _) | (refine Below.drew ?_) | (refine below_drewN ?_ _) | (refine below_after (Ext.below _) ?_ ?_) | (refine below_after (by assumption) ?_ ?_) | (simp; done) | omega | (simp; omega)))), HN.out⟩
        case measure => simp [intOf]; omega
    · obtain rfl : j = n := by omega
      have HV := Lib.hid (getC_none (l := l) (x := x) (y := y) (fun r a b c h => hno.out r a b c (by have := (List.getElem?_eq_some_iff.1 h).1; rw [hR.len] at this; exact this) h))
      go_wp2
      go_ret
      exact ⟨ret_int HV.out.symm, by (repeat' (first | exact Below.refl _ _ | assumption | (refine Below.alloc ?_ ?_ _) | (refine Below.setCell ?_ ?_ _) | (refine Below.drew ?_) | (refine below_drewN ?_ _) | (refine below_after (Ext.below _) ?_ ?_) | (refine below_after (by assumption) ?_ ?_) | (simp; done) | omega | (simp; omega)))⟩
end Go.Proofs.YtmenokhnanghgaaGreat
end
section
namespace Go.Proofs.YtmenokhnanghgaaGreat
open Go Go.RowKit
set_option maxRecDepth 100000
set_option maxHeartbeats 400000 in
theorem ref_Valid (x y : Int) (w : World) : Calls Tryz.prog 150 #[.agg #[.int .i64 x, .int .i64 y]] w fun e w' => e = .returned (.bool (decide (-1048576 ≤ x ∧ x ≤ 1048576 ∧ -1048576 ≤ y ∧ y ≤ 1048576))) ∧ Below w.heap.size w w' := by
  go_enter Tryz.func150, Tryz.ntmps150
  go_wp2
  all_goals (go_ret; refine ⟨ret_bool ?_, by (repeat' (first | exact Below.refl _ _ | assumption | (refine Below.alloc ?_ ?_ _) | (refine Below.setCell ?_ ?_ _) | (refine Below.drew ?_) | (refine below_drewN ?_ _) | (refine below_after (Ext.below _) ?_ ?_) | (refine below_after (by assumption) ?_ ?_) | (simp; done) | omega | (simp; omega)))⟩; rw [Bool.eq_iff_iff]; simp; try omega)
end Go.Proofs.YtmenokhnanghgaaGreat
end
section
namespace Go.Proofs.YtmenokhnanghgaaGreat
open Go Go.RowKit
set_option maxRecDepth 100000
attribute [local go_sem ↓ high] eq_cl neq_cl eq_pt neq_pt
theorem ref05_RightV {A : Option Addr} {n c : Nat} {l : List (Int × Int × Int)} {q : Bool} (h : rightC l = q) (w : World) (hR : Rd encC 3 w A n l) (hn : n ≤ 9223372036854775807) : Calls Tryz.prog 38 #[.slice A n c] w fun e w' => e = .returned (.bool q) ∧ Below w.heap.size w w' := by
  rw [← h]; exact ref05_Right A n c l w hR hn
end Go.Proofs.YtmenokhnanghgaaGreat
end
section
namespace Go.Proofs.YtmenokhnanghgaaGreat
open Go Go.RowKit
set_option maxRecDepth 100000
attribute [local go_sem ↓ high] eq_cl neq_cl eq_pt neq_pt
theorem rd_ce_own {e : TypeId} {B g n c : Nat} {w : World} {l : List (Int × Int × Int)} (h : Own encC 3 e B w (some ⟨g, 0, none⟩) n c l) {i : Nat} {x y s : Int} (hi : i < n) (hx : l[i]? = some (x, y, s)) : w.cell? ⟨g, i * 3, none⟩ = some (.int .i64 x) ∧ w.cell? ⟨g, i * 3 + 1, none⟩ = some (.int .i64 y) ∧ w.cell? ⟨g, i * 3 + 2, none⟩ = some (.int .i64 s) ∧
    w.frozen? ⟨g, i * 3, none⟩ = false ∧ w.frozen? ⟨g, i * 3 + 1, none⟩ = false ∧ w.frozen? ⟨g, i * 3 + 2, none⟩ = false := by
  have h1 := own_cells encC_len h (j := i * 3) (by omega)
  have h2 := own_cells encC_len h (j := i * 3 + 1) (by omega)
  have h3 := own_cells encC_len h (j := i * 3 + 2) (by omega)
  have e1 := flatMap_get encC_len l i (x, y, s) hx 0 _ rfl
  have e2 := flatMap_get encC_len l i (x, y, s) hx 1 _ rfl
  have e3 := flatMap_get encC_len l i (x, y, s) hx 2 _ rfl
  rw [Nat.add_zero] at e1
  exact ⟨h1.1.trans e1, h2.1.trans e2, h3.1.trans e3, h1.2, h2.2, h3.2⟩
theorem own_cap {α : Type} {enc : α → List Value} {k : Nat} {e : TypeId} {B n c : Nat} {w : World} {A : Option Addr} {l : List α} (h : Own enc k e B w A n c l) : n ≤ c := by
  rcases h.row.2 with ⟨h0, _⟩ | ⟨g, cap, cur, hv, hg, hh, h1, r⟩
  · injection h0 with _ e1 e2; omega
  · injection hv with _ e1 e2; omega
theorem ret_pe {v : Value} {a b : Int} (h : a = b) : Ending.returned (.tuple #[v, .int .i64 a]) = .returned (.tuple #[v, .int .i64 b]) := by rw [h]
section
variable {l : List (Int × Int × Int)} {dx dy x y s : Int} {j : Nat}
end
end Go.Proofs.YtmenokhnanghgaaGreat
end
section
namespace Go.Proofs.YtmenokhnanghgaaGreat
open Go Go.RowKit
set_option maxRecDepth 100000
attribute [local go_sem ↓ high] eq_pt neq_pt
theorem range_cases (x y : Int) : (decide (x < -2) = true) ∨ (decide (x < -2) = false ∧ decide (2 < x) = true) ∨ (decide (x < -2) = false ∧ decide (2 < x) = false ∧ decide (y < -2) = true) ∨
    (decide (x < -2) = false ∧ decide (2 < x) = false ∧ decide (y < -2) = false ∧ decide (2 < y) = true) ∨ (decide (x < -2) = false ∧ decide (2 < x) = false ∧ decide (y < -2) = false ∧ decide (2 < y) = false) := by
  simp only [decide_eq_true_eq, decide_eq_false_iff_not]; omega
set_option maxHeartbeats 1000000 in
theorem hood_Right_round (A : Option Addr) (n c : Nat) (l : List (Int × Int)) (w : World) (hR : Rd encP 2 w A n l) (h1 : 1 ≤ n) (h25 : n ≤ 25) :
    Calls Tryz.prog 96 #[.slice A n c] w fun e w' => e = .returned (.bool (rightL l)) ∧ Below w.heap.size w w' := by
  go_enter Tryz.func96, Tryz.ntmps96
  go_wp2
  go_loopw [15] (fun i wr => ∃ j : Nat, j ≤ n ∧ i = .int .i64 j ∧ Below w.heap.size w wr ∧ Hid (∀ r, r < j → okAt l r = true)) (fun i _ => n - (intOf i).toNat)
  case atStart => exact ⟨0, by omega, rfl, Below.refl _ _, fun r hr => absurd hr (by omega)⟩
  case round =>
    obtain ⟨j, hj, rfl, hb, hno⟩ := hrel
    obtain ⟨hc, hf⟩ := bcell hb
    have hs := hb.size
    by_cases hlt : j < n
    · obtain ⟨x, y, bo, o, hx, rfl, hbl, hcell, hcell2⟩ := hR.pt hlt
      have hbad := fun h => Lib.hid (rightL_bad hR.len hlt (okAt_out hx.out h))
      rcases range_cases x y with d1 | ⟨d1, d2⟩ | ⟨d1, d2, d3⟩ | ⟨d1, d2, d3, d4⟩ | ⟨d1, d2, d3, d4⟩
      · have hbd := hbad (.inl (of_decide_eq_true d1))
        clear hbad
        go_wp2
        (refine wp_region_ext_lit (by kernel_rfl) (by kernel_rfl) ?_; (repeat (go_big_quiet_step (fail))); refine wpQuiet_nil ?_; intro _ hw'; obtain ⟨z1, hw''⟩ := hw'; subst hw''; have hs1 := z1.size; obtain ⟨hc1, hf1⟩ := bcell z1.below; (try simp only [World.size_alloc, World.size_setCell, World.size_drew] at hc1 hf1); (try simp at hs1))
        go_wp2
        go_ret
        exact ⟨ret_bool hbd.out.symm, by (repeat' (first | exact Below.refl _ _ | assumption | (refine Below.alloc ?_ ?_ _) | (refine Below.setCell ?_ ?_ _) | (refine Below.drew ?_) | (refine below_drewN ?_ _) | (refine below_after (Ext.below _) ?_ ?_) | (refine below_after (by assumption) ?_ ?_) | (simp; done) | omega | (simp; omega)))⟩
      · have hbd := hbad (.inr (.inl (of_decide_eq_true d2)))
        clear hbad
        go_wp2
        (refine wp_region_ext_lit (by kernel_rfl) (by kernel_rfl) ?_; (repeat (go_big_quiet_step (fail))); refine wpQuiet_nil ?_; intro _ hw'; obtain ⟨z1, hw''⟩ := hw'; subst hw''; have hs1 := z1.size; obtain ⟨hc1, hf1⟩ := bcell z1.below; (try simp only [World.size_alloc, World.size_setCell, World.size_drew] at hc1 hf1); (try simp at hs1))
        go_wp2
        go_ret
        exact ⟨ret_bool hbd.out.symm, by (repeat' (first | exact Below.refl _ _ | assumption | (refine Below.alloc ?_ ?_ _) | (refine Below.setCell ?_ ?_ _) | (refine Below.drew ?_) | (refine below_drewN ?_ _) | (refine below_after (Ext.below _) ?_ ?_) | (refine below_after (by assumption) ?_ ?_) | (simp; done) | omega | (simp; omega)))⟩
      · have hbd := hbad (.inr (.inr (.inl (of_decide_eq_true d3))))
        clear hbad
        go_wp2
        (refine wp_region_ext_lit (by kernel_rfl) (by kernel_rfl) ?_; (repeat (go_big_quiet_step (fail))); refine wpQuiet_nil ?_; intro _ hw'; obtain ⟨z1, hw''⟩ := hw'; subst hw''; have hs1 := z1.size; obtain ⟨hc1, hf1⟩ := bcell z1.below; (try simp only [World.size_alloc, World.size_setCell, World.size_drew] at hc1 hf1); (try simp at hs1))
        go_wp2
        go_ret
        exact ⟨ret_bool hbd.out.symm, by (repeat' (first | exact Below.refl _ _ | assumption | (refine Below.alloc ?_ ?_ _) | (refine Below.setCell ?_ ?_ _) | (refine Below.drew ?_) | (refine below_drewN ?_ _) | (refine below_after (Ext.below _) ?_ ?_) | (refine below_after (by assumption) ?_ ?_) | (simp; done) | omega | (simp; omega)))⟩
      · have hbd := hbad (.inr (.inr (.inr (of_decide_eq_true d4))))
        clear hbad
        go_wp2
        (refine wp_region_ext_lit (by kernel_rfl) (by kernel_rfl) ?_; (repeat (go_big_quiet_step (fail))); refine wpQuiet_nil ?_; intro _ hw'; obtain ⟨z1, hw''⟩ := hw'; subst hw''; have hs1 := z1.size; obtain ⟨hc1, hf1⟩ := bcell z1.below; (try simp only [World.size_alloc, World.size_setCell, World.size_drew] at hc1 hf1); (try simp at hs1))
        go_wp2
        go_ret
        exact ⟨ret_bool hbd.out.symm, by (repeat' (first | exact Below.refl _ _ | assumption | (refine Below.alloc ?_ ?_ _) | (refine Below.setCell ?_ ?_ _) | (refine Below.drew ?_) | (refine below_drewN ?_ _) | (refine below_after (Ext.below _) ?_ ?_) | (refine below_after (by assumption) ?_ ?_) | (simp; done) | omega | (simp; omega)))⟩
      have hin : -2 ≤ x ∧ x ≤ 2 ∧ -2 ≤ y ∧ y ≤ 2 := by
        have := of_decide_eq_false d1; have := of_decide_eq_false d2; have := of_decide_eq_false d3; have := of_decide_eq_false d4; omega
      clear hbad
      rcases Nat.eq_zero_or_pos j with rfl | hj0
      · have hok := Lib.hid (ok_step hno.out (okAt_first hx.out hin))
        clear hin
        simp only [Nat.zero_mul, Nat.add_zero] at hcell hcell2
        go_wp2
        (refine wp_region_ext_lit (by kernel_rfl) (by kernel_rfl) ?_; (repeat (go_big_quiet_step (fail))); refine wpQuiet_nil ?_; intro _ hw'; obtain ⟨z1, hw''⟩ := hw'; subst hw''; have hs1 := z1.size; obtain ⟨hc1, hf1⟩ := bcell z1.below; (try simp only [World.size_alloc, World.size_setCell, World.size_drew] at hc1 hf1); (try simp at hs1))
        go_wp2
        go_roundw
        case rel => exact ⟨1, by omega, by go_num, (by (repeat' (first | exact Below.refl _ _ | assumption | (refine Below.alloc ?_ ?_ _) | (refine Below.setCell ?_ ?_ _) | (refine Below.drew ?_) | (refine below_drewN ?_ _) | (refine below_after (Ext.below _) ?_ ?_) | (refine below_after (by assumption) ?_ ?_) | (simp; done) | omega | (simp; omega)))), hok.out⟩
        case measure => simp [intOf]; omega
      · obtain ⟨i, rfl⟩ := Nat.exists_eq_add_of_le' hj0
        obtain ⟨a, b, bo', o', hp, he, hbl', hcell', hcell2'⟩ := hR.pt (i := i) (by omega)
        obtain ⟨rfl, rfl⟩ : bo = bo' ∧ o = o' := by injection he with he; injection he with e1 e2; exact ⟨e1, e2⟩
        have hok := Lib.hid (okAt_next hj0 hx.out hp.out hin)
        have hcb := cmpP_bef a b x y
        have d5 : decide (0 < ((i : Int) + 1)) = true := decide_eq_true (by omega)
        clear hin he
        cases hbf : befP a b x y with
        | true =>
          rw [hbf] at hcb hok
          have hcb' : decide (0 ≤ cmpP a b x y) = false := hcb
          clear hcb hbf
          have hnx := Lib.hid (ok_step hno.out hok.out)
          go_wp2
          (refine wp_region_ext_lit (by kernel_rfl) (by kernel_rfl) ?_; (repeat (go_big_quiet_step (first | (go_at_call 111; exact calls_ext (point_Compare _ _ _ _ _))))); refine wpQuiet_nil ?_; intro _ hw'; obtain ⟨z1, hw''⟩ := hw'; subst hw''; have hs1 := z1.size; obtain ⟨hc1, hf1⟩ := bcell z1.below; (try simp only [World.size_alloc, World.size_setCell, World.size_drew] at hc1 hf1); (try simp at hs1))
          go_wp2
          go_roundw
          case rel => exact ⟨i + 1 + 1, by omega, by go_num, (by (repeat' (first | exact Below.refl _ _ | assumption | (refine Below.alloc ?_ ?_ _) | (refine Below.setCell ?_ ?_ _) | (refine Below.drew ?_) | (refine below_drewN ?_ _) | (refine below_after (Ext.below _) ?_ ?_) | (refine below_after (by assumption) ?_ ?_) | (simp; done) | omega | (simp; omega)))), hnx.out⟩
          case measure => simp [intOf]; omega
        | false =>
          rw [hbf] at hcb hok
          have hcb' : decide (0 ≤ cmpP a b x y) = true := hcb
          clear hcb hbf
          have hbd := Lib.hid (rightL_bad hR.len hlt hok.out)
          go_wp2
          (refine wp_region_ext_lit (by kernel_rfl) (by kernel_rfl) ?_; (repeat (go_big_quiet_step (first | (go_at_call 111; exact calls_ext (point_Compare _ _ _ _ _))))); refine wpQuiet_nil ?_; intro _ hw'; obtain ⟨z1, hw''⟩ := hw'; subst hw''; have hs1 := z1.size; obtain ⟨hc1, hf1⟩ := bcell z1.below; (try simp only [World.size_alloc, World.size_setCell, World.size_drew] at hc1 hf1); (try simp at hs1))
          go_wp2
          go_ret
          exact ⟨ret_bool hbd.out.symm, by (repeat' (first | exact Below.refl _ _ | assumption | (refine Below.alloc ?_ ?_ _) | (refine Below.setCell ?_ ?_ _) | (refine Below.drew ?_) | (refine below_drewN ?_ _) | (refine below_after (Ext.below _) ?_ ?_) | (refine below_after (by assumption) ?_ ?_) | (simp; done) | omega | (simp; omega)))⟩
    · obtain rfl : j = n := by omega
      have hall := Lib.hid (rightL_all hR.len h1 h25 hno.out)
      go_wp2
      go_ret
      exact ⟨ret_bool hall.out.symm, by (repeat' (first | exact Below.refl _ _ | assumption | (refine Below.alloc ?_ ?_ _) | (refine Below.setCell ?_ ?_ _) | (refine Below.drew ?_) | (refine below_drewN ?_ _) | (refine below_after (Ext.below _) ?_ ?_) | (refine below_after (by assumption) ?_ ?_) | (simp; done) | omega | (simp; omega)))⟩
theorem hood_Right (A : Option Addr) (n c : Nat) (l : List (Int × Int)) (w : World) (hR : Rd encP 2 w A n l) :
    Calls Tryz.prog 96 #[.slice A n c] w fun e w' => e = .returned (.bool (rightL l)) ∧ Below w.heap.size w w' := by
  by_cases h1 : n < 1
  · have hbd := Lib.hid (rightL_len hR.len (.inl h1))
    have d1 : decide ((n : Int) < 1) = true := decide_eq_true (by omega)
    go_enter Tryz.func96, Tryz.ntmps96
    go_wp2
    go_ret
    exact ⟨ret_bool hbd.out.symm, Below.refl _ _⟩
  by_cases h2 : 25 < n
  · have hbd := Lib.hid (rightL_len hR.len (.inr h2))
    have d1 : decide ((n : Int) < 1) = false := decide_eq_false (by omega)
    have d2 : decide (25 < (n : Int)) = true := decide_eq_true (by omega)
    go_enter Tryz.func96, Tryz.ntmps96
    go_wp2
    go_ret
    exact ⟨ret_bool hbd.out.symm, Below.refl _ _⟩
  exact hood_Right_round A n c l w hR (by omega) (by omega)
theorem ref_before (ax ay bx bx' : Int) (w : World) {r : Bool} (h : befP ax ay bx bx' = r) : Calls Tryz.prog 110 #[.agg #[.int .i64 ax, .int .i64 ay], .agg #[.int .i64 bx, .int .i64 bx']] w fun e w' => e = .returned (.bool r) ∧ Below w.heap.size w w' := by
  rw [← h]
  have hbef := Lib.hid (show befP ax ay bx bx' = (decide (ay < bx') || (decide (ay = bx') && decide (ax < bx))) by unfold befP; simp)
  clear h
  go_enter Tryz.func110, Tryz.ntmps110
  go_wp2
  all_goals
    go_ret
    exact ⟨ret_bool (by rw [hbef.out]; simp [*]), by (repeat' (first | exact Below.refl _ _ | assumption | (refine Below.alloc ?_ ?_ _) | (refine Below.setCell ?_ ?_ _) | (refine Below.drew ?_) | (refine below_drewN ?_ _) | (refine below_after (Ext.below _) ?_ ?_) | (refine below_after (by assumption) ?_ ?_) | (simp; done) | omega | (simp; omega)))⟩
set_option maxHeartbeats 1000000 in
theorem ref_Right7_round (A : Option Addr) (n c : Nat) (l : List (Int × Int)) (w : World) (hR : Rd encP 2 w A n l) (h1 : 1 ≤ n) (h25 : n ≤ 25) :
    Calls Tryz.prog 76 #[.slice A n c] w fun e w' => e = .returned (.bool (rightL l)) ∧ Below w.heap.size w w' := by
  go_enter Tryz.func76, Tryz.ntmps76
  go_wp2
  go_loopw [3] (fun i wr => ∃ j : Nat, j ≤ n ∧ i = .int .i64 j ∧ Below w.heap.size w wr ∧ Hid (∀ r, r < j → okAt l r = true)) (fun i _ => n - (intOf i).toNat)
  case atStart => exact ⟨0, by omega, rfl, Below.refl _ _, fun r hr => absurd hr (by omega)⟩
  case round =>
    obtain ⟨j, hj, rfl, hb, hno⟩ := hrel
    obtain ⟨hc, hf⟩ := bcell hb
    have hs := hb.size
    by_cases hlt : j < n
    · obtain ⟨x, y, bo, o, hx, rfl, hbl, hcell, hcell2⟩ := hR.pt hlt
      have hbad := fun h => Lib.hid (rightL_bad hR.len hlt (okAt_out hx.out h))
      rcases range_cases x y with d1 | ⟨d1, d2⟩ | ⟨d1, d2, d3⟩ | ⟨d1, d2, d3, d4⟩ | ⟨d1, d2, d3, d4⟩
      · have hbd := hbad (.inl (of_decide_eq_true d1))
        clear hbad
        go_wp2
        (refine wp_region_ext_lit (by kernel_rfl) (by kernel_rfl) ?_; (repeat (go_big_quiet_step (fail))); refine wpQuiet_nil ?_; intro _ hw'; obtain ⟨z1, hw''⟩ := hw'; subst hw''; have hs1 := z1.size; obtain ⟨hc1, hf1⟩ := bcell z1.below; (try simp only [World.size_alloc, World.size_setCell, World.size_drew] at hc1 hf1); (try simp at hs1))
        go_wp2
        go_ret
        exact ⟨ret_bool hbd.out.symm, by (repeat' (first | exact Below.refl _ _ | assumption | (refine Below.alloc ?_ ?_ _) | (refine Below.setCell ?_ ?_ _) | (refine Below.drew ?_) | (refine below_drewN ?_ _) | (refine below_after (Ext.below _) ?_ ?_) | (refine below_after (by assumption) ?_ ?_) | (simp; done) | omega | (simp; omega)))⟩
      · have hbd := hbad (.inr (.inl (of_decide_eq_true d2)))
        clear hbad
        go_wp2
        (refine wp_region_ext_lit (by kernel_rfl) (by kernel_rfl) ?_; (repeat (go_big_quiet_step (fail))); refine wpQuiet_nil ?_; intro _ hw'; obtain ⟨z1, hw''⟩ := hw'; subst hw''; have hs1 := z1.size; obtain ⟨hc1, hf1⟩ := bcell z1.below; (try simp only [World.size_alloc, World.size_setCell, World.size_drew] at hc1 hf1); (try simp at hs1))
        go_wp2
        go_ret
        exact ⟨ret_bool hbd.out.symm, by (repeat' (first | exact Below.refl _ _ | assumption | (refine Below.alloc ?_ ?_ _) | (refine Below.setCell ?_ ?_ _) | (refine Below.drew ?_) | (refine below_drewN ?_ _) | (refine below_after (Ext.below _) ?_ ?_) | (refine below_after (by assumption) ?_ ?_) | (simp; done) | omega | (simp; omega)))⟩
      · have hbd := hbad (.inr (.inr (.inl (of_decide_eq_true d3))))
        clear hbad
        go_wp2
        (refine wp_region_ext_lit (by kernel_rfl) (by kernel_rfl) ?_; (repeat (go_big_quiet_step (fail))); refine wpQuiet_nil ?_; intro _ hw'; obtain ⟨z1, hw''⟩ := hw'; subst hw''; have hs1 := z1.size; obtain ⟨hc1, hf1⟩ := bcell z1.below; (try simp only [World.size_alloc, World.size_setCell, World.size_drew] at hc1 hf1); (try simp at hs1))
        go_wp2
        go_ret
        exact ⟨ret_bool hbd.out.symm, by (repeat' (first | exact Below.refl _ _ | assumption | (refine Below.alloc ?_ ?_ _) | (refine Below.setCell ?_ ?_ _) | (refine Below.drew ?_) | (refine below_drewN ?_ _) | (refine below_after (Ext.below _) ?_ ?_) | (refine below_after (by assumption) ?_ ?_) | (simp; done) | omega | (simp; omega)))⟩
      · have hbd := hbad (.inr (.inr (.inr (of_decide_eq_true d4))))
        clear hbad
        go_wp2
        (refine wp_region_ext_lit (by kernel_rfl) (by kernel_rfl) ?_; (repeat (go_big_quiet_step (fail))); refine wpQuiet_nil ?_; intro _ hw'; obtain ⟨z1, hw''⟩ := hw'; subst hw''; have hs1 := z1.size; obtain ⟨hc1, hf1⟩ := bcell z1.below; (try simp only [World.size_alloc, World.size_setCell, World.size_drew] at hc1 hf1); (try simp at hs1))
        go_wp2
        go_ret
        exact ⟨ret_bool hbd.out.symm, by (repeat' (first | exact Below.refl _ _ | assumption | (refine Below.alloc ?_ ?_ _) | (refine Below.setCell ?_ ?_ _) | (refine Below.drew ?_) | (refine below_drewN ?_ _) | (refine below_after (Ext.below _) ?_ ?_) | (refine below_after (by assumption) ?_ ?_) | (simp; done) | omega | (simp; omega)))⟩
      have hin : -2 ≤ x ∧ x ≤ 2 ∧ -2 ≤ y ∧ y ≤ 2 := by
        have := of_decide_eq_false d1; have := of_decide_eq_false d2; have := of_decide_eq_false d3; have := of_decide_eq_false d4; omega
      clear hbad
      rcases Nat.eq_zero_or_pos j with rfl | hj0
      · have hok := Lib.hid (ok_step hno.out (okAt_first hx.out hin))
        clear hin
        simp only [Nat.zero_mul, Nat.add_zero] at hcell hcell2
        go_wp2
        (refine wp_region_ext_lit (by kernel_rfl) (by kernel_rfl) ?_; (repeat (go_big_quiet_step (fail))); refine wpQuiet_nil ?_; intro _ hw'; obtain ⟨z1, hw''⟩ := hw'; subst hw''; have hs1 := z1.size; obtain ⟨hc1, hf1⟩ := bcell z1.below; (try simp only [World.size_alloc, World.size_setCell, World.size_drew] at hc1 hf1); (try simp at hs1))
        go_wp2
        go_roundw
        case rel => exact ⟨1, by omega, by go_num, (by (repeat' (first | exact Below.refl _ _ | assumption | (refine Below.alloc ?_ ?_ _) | (refine Below.setCell ?_ ?_ _) | (refine Below.drew ?_) | (refine below_drewN ?_ _) | (refine below_after (Ext.below _) ?_ ?_) | (refine below_after (by assumption) ?_ ?_) | (simp; done) | omega | (simp; omega)))), hok.out⟩
        case measure => simp [intOf]; omega
      · obtain ⟨i, rfl⟩ := Nat.exists_eq_add_of_le' hj0
        obtain ⟨a, b, bo', o', hp, he, hbl', hcell', hcell2'⟩ := hR.pt (i := i) (by omega)
        obtain ⟨rfl, rfl⟩ : bo = bo' ∧ o = o' := by injection he with he; injection he with e1 e2; exact ⟨e1, e2⟩
        have hok := Lib.hid (okAt_next hj0 hx.out hp.out hin)
        have d5 : decide (0 < ((i : Int) + 1)) = true := decide_eq_true (by omega)
        clear hin he
        cases hbf : befP a b x y with
        | true =>
          rw [hbf] at hok
          have hnx := Lib.hid (ok_step hno.out hok.out)
          go_wp2
          (refine wp_region_ext_lit (by kernel_rfl) (by kernel_rfl) ?_; (repeat (go_big_quiet_step (first | (go_at_call 110; exact calls_ext (ref_before _ _ _ _ _ hbf))))); refine wpQuiet_nil ?_; intro _ hw'; obtain ⟨z1, hw''⟩ := hw'; subst hw''; have hs1 := z1.size; obtain ⟨hc1, hf1⟩ := bcell z1.below; (try simp only [World.size_alloc, World.size_setCell, World.size_drew] at hc1 hf1); (try simp at hs1))
          go_wp2
          go_roundw
          case rel => exact ⟨i + 1 + 1, by omega, by go_num, (by (repeat' (first | exact Below.refl _ _ | assumption | (refine Below.alloc ?_ ?_ _) | (refine Below.setCell ?_ ?_ _) | (refine Below.drew ?_) | (refine below_drewN ?_ _) | (refine below_after (Ext.below _) ?_ ?_) | (refine below_after (by assumption) ?_ ?_) | (simp; done) | omega | (simp; omega)))), hnx.out⟩
          case measure => simp [intOf]; omega
        | false =>
          rw [hbf] at hok
          have hbd := Lib.hid (rightL_bad hR.len hlt hok.out)
          go_wp2
          (refine wp_region_ext_lit (by kernel_rfl) (by kernel_rfl) ?_; (repeat (go_big_quiet_step (first | (go_at_call 110; exact calls_ext (ref_before _ _ _ _ _ hbf))))); refine wpQuiet_nil ?_; intro _ hw'; obtain ⟨z1, hw''⟩ := hw'; subst hw''; have hs1 := z1.size; obtain ⟨hc1, hf1⟩ := bcell z1.below; (try simp only [World.size_alloc, World.size_setCell, World.size_drew] at hc1 hf1); (try simp at hs1))
          go_wp2
          go_ret
          exact ⟨ret_bool hbd.out.symm, by (repeat' (first | exact Below.refl _ _ | assumption | (refine Below.alloc ?_ ?_ _) | (refine Below.setCell ?_ ?_ _) | (refine Below.drew ?_) | (refine below_drewN ?_ _) | (refine below_after (Ext.below _) ?_ ?_) | (refine below_after (by assumption) ?_ ?_) | (simp; done) | omega | (simp; omega)))⟩
    · obtain rfl : j = n := by omega
      have hall := Lib.hid (rightL_all hR.len h1 h25 hno.out)
      go_wp2
      go_ret
      exact ⟨ret_bool hall.out.symm, by (repeat' (first | exact Below.refl _ _ | assumption | (refine Below.alloc ?_ ?_ _) | (refine Below.setCell ?_ ?_ _) | (refine Below.drew ?_) | (refine below_drewN ?_ _) | (refine below_after (Ext.below _) ?_ ?_) | (refine below_after (by assumption) ?_ ?_) | (simp; done) | omega | (simp; omega)))⟩
theorem ref_Right7 (A : Option Addr) (n c : Nat) (l : List (Int × Int)) (w : World) (hR : Rd encP 2 w A n l) :
    Calls Tryz.prog 76 #[.slice A n c] w fun e w' => e = .returned (.bool (rightL l)) ∧ Below w.heap.size w w' := by
  by_cases h1 : n < 1
  · have hbd := Lib.hid (rightL_len hR.len (.inl h1))
    have d1 : decide ((n : Int) < 1) = true := decide_eq_true (by omega)
    go_enter Tryz.func76, Tryz.ntmps76
    go_wp2
    go_ret
    exact ⟨ret_bool hbd.out.symm, Below.refl _ _⟩
  by_cases h2 : 25 < n
  · have hbd := Lib.hid (rightL_len hR.len (.inr h2))
    have d1 : decide ((n : Int) < 1) = false := decide_eq_false (by omega)
    have d2 : decide (25 < (n : Int)) = true := decide_eq_true (by omega)
    go_enter Tryz.func76, Tryz.ntmps76
    go_wp2
    go_ret
    exact ⟨ret_bool hbd.out.symm, Below.refl _ _⟩
  exact ref_Right7_round A n c l w hR (by omega) (by omega)
end Go.Proofs.YtmenokhnanghgaaGreat
end
section
namespace Go.Proofs.YtmenokhnanghgaaGreat
open Go Go.RowKit
set_option maxRecDepth 100000
theorem rd_litP (w : World) (l : List (Int × Int)) (cs : Array Value) (n : Nat) (hn : l.length = n) (hm : n ≤ 4611686018427387904) (hcs : cs.toList = l.flatMap encP) : Rd encP 2 (w.alloc (.cells cs 66)) (some ⟨w.heap.size, 0, none⟩) n l := by
  have h := (Own.lit encP_len w 66 w.heap.size (Nat.le_refl _) l n hn hm cs.toList hcs).rd encP_len
  simpa using h
theorem below_thru {w w1 w2 : World} (h : Below w.heap.size w w1) (h2 : Below w1.heap.size w1 w2) : Below w.heap.size w w2 :=
  below_after h2 h h.size
def BoxAt (w : World) (b : Nat) (x y z u : Int) : Prop := b < w.heap.size ∧ w.cell? ⟨b, 0, none⟩ = some (.int .i64 x) ∧ w.cell? ⟨b, 1, none⟩ = some (.int .i64 y) ∧ w.cell? ⟨b, 2, none⟩ = some (.int .i64 z) ∧ w.cell? ⟨b, 3, none⟩ = some (.int .i64 u)
theorem BoxAt.of {w w' : World} {b : Nat} {x y z u : Int} (h : BoxAt w b x y z u) (hb : Below w.heap.size w w') : BoxAt w' b x y z u := by
  obtain ⟨h0, h1, h2, h3, h4⟩ := h
  exact ⟨by have := hb.size; omega, (hb.cell (p := ⟨_, _, none⟩) h0).trans h1, (hb.cell (p := ⟨_, _, none⟩) h0).trans h2, (hb.cell (p := ⟨_, _, none⟩) h0).trans h3, (hb.cell (p := ⟨_, _, none⟩) h0).trans h4⟩
theorem BoxAt.alloc {w : World} {b : Nat} {x y z u : Int} (h : BoxAt w b x y z u) (o : Obj) : BoxAt (w.alloc o) b x y z u := h.of ((Below.refl _ _).alloc (Nat.le_refl _) o)
theorem BoxAt.new (w : World) (x y z u : Int) (t : TypeId) : BoxAt (w.alloc (.cells #[.int .i64 x, .int .i64 y, .int .i64 z, .int .i64 u] t)) w.heap.size x y z u := by
  refine ⟨by simp, ?_, ?_, ?_, ?_⟩ <;> simp [cell_alloc_if]
structure HRd {α : Type} (enc : α → List Value) (k : Nat) (w : World) (A : Option Addr) (n : Nat) (l : List α) : Prop where
  rd : Rd enc k w A n l
theorem HRd.drew {α : Type} {enc : α → List Value} {k : Nat} {w : World} {A : Option Addr} {n : Nat} {l : List α} (h : HRd enc k w A n l) : HRd enc k w.drew A n l := ⟨h.rd⟩
theorem HRd.of {α : Type} {enc : α → List Value} {k : Nat} {w w' : World} {A : Option Addr} {n : Nat} {l : List α} (h : HRd enc k w A n l) (hb : Below w.heap.size w w') : HRd enc k w' A n l := ⟨h.rd.of hb⟩
theorem HRd.alloc {α : Type} {enc : α → List Value} {k : Nat} {w : World} {A : Option Addr} {n : Nat} {l : List α} (h : HRd enc k w A n l) (o : Obj) : HRd enc k (w.alloc o) A n l := h.of ((Below.refl _ _).alloc (Nat.le_refl _) o)
def PtAt (w : World) (b : Nat) (x y : Int) : Prop := b < w.heap.size ∧ w.cell? ⟨b, 0, none⟩ = some (.int .i64 x) ∧ w.cell? ⟨b, 1, none⟩ = some (.int .i64 y)
theorem PtAt.of {w w' : World} {b : Nat} {x y : Int} (h : PtAt w b x y) (hb : Below w.heap.size w w') : PtAt w' b x y := by
  obtain ⟨h0, h1, h2⟩ := h
  exact ⟨by have := hb.size; omega, (hb.cell (p := ⟨_, _, none⟩) h0).trans h1, (hb.cell (p := ⟨_, _, none⟩) h0).trans h2⟩
theorem PtAt.alloc {w : World} {b : Nat} {x y : Int} (h : PtAt w b x y) (o : Obj) : PtAt (w.alloc o) b x y := h.of ((Below.refl _ _).alloc (Nat.le_refl _) o)
theorem PtAt.new (w : World) (x y : Int) (t : TypeId) : PtAt (w.alloc (.cells #[.int .i64 x, .int .i64 y] t)) w.heap.size x y := by
  refine ⟨by simp, ?_, ?_⟩ <;> simp [cell_alloc_if]
end Go.Proofs.YtmenokhnanghgaaGreat
end
section
namespace Go.Proofs.YtmenokhnanghgaaGreat
open Go Go.RowKit
set_option maxRecDepth 100000
attribute [local go_sem ↓ high] eq_cl neq_cl eq_pt neq_pt
theorem cmpC_y {x y s x' y' s' : Int} (h : y ≠ y') : cmpC (x, y, s) (x', y', s') = cmpI y y' := by
  unfold cmpC cmpO cmpP orI cmpI; simp only; (repeat' split) <;> omega
theorem cmpC_x {x y s x' y' s' : Int} (h : y = y') (h2 : x ≠ x') : cmpC (x, y, s) (x', y', s') = cmpI x x' := by
  unfold cmpC cmpO cmpP orI cmpI; simp only; (repeat' split) <;> omega
theorem cmpC_s {x y s x' y' s' : Int} (h : y = y') (h2 : x = x') : cmpC (x, y, s) (x', y', s') = cmpI s s' := by
  unfold cmpC cmpO cmpP orI cmpI; simp only; (repeat' split) <;> omega
end Go.Proofs.YtmenokhnanghgaaGreat
end
section
namespace Go.Proofs.YtmenokhnanghgaaGreat
open Go Go.RowKit
set_option maxRecDepth 100000
attribute [local go_sem ↓ high] eq_cl neq_cl eq_pt neq_pt
set_option maxHeartbeats 2000000 in
theorem ref05_Compare (A B : Option Addr) (n m c d : Nat) (l r : List (Int × Int × Int)) (w : World) (hR : Rd encC 3 w A n l) (hS : Rd encC 3 w B m r) (hn : n ≤ 1000000) (hm : m ≤ 1000000) :
    Calls Tryz.prog 49 #[.slice A n c, .slice B m d] w fun e w' => e = .returned (.int .i64 (cmpL l r)) ∧ Below w.heap.size w w' := by
  go_enter Tryz.func49, Tryz.ntmps49
  go_wp2
  go_loopw [5] (fun i wr => ∃ j : Nat, j ≤ n ∧ j ≤ m ∧ i = .int .i64 j ∧ Below w.heap.size w wr ∧ Hid (∀ i, i < j → l[i]? = r[i]?)) (fun i _ => n - (intOf i).toNat)
  case atStart => exact ⟨0, by omega, by omega, rfl, Below.refl _ _, fun r hr => absurd hr (by omega)⟩
  case round =>
    obtain ⟨j, hj, hjm, rfl, hb, hno⟩ := hrel
    obtain ⟨hc, hf⟩ := bcell hb
    have hs := hb.size
    by_cases hend : j = n ∨ j = m
    · have HV := Lib.hid (cmpL_end hR.len hS.len hj hjm hno.out hend)
      have dd : decide ((j : Int) < n) = false ∨ (decide ((j : Int) < n) = true ∧ decide ((j : Int) < m) = false) := by simp only [decide_eq_true_eq, decide_eq_false_iff_not]; omega
      clear hend
      have ee : decide (j < n) = false ∨ (decide (j < n) = true ∧ decide (j < m) = false) := by simp only [decide_eq_true_eq, decide_eq_false_iff_not] at dd ⊢; omega
      rcases dd with d1 | ⟨d1, d2⟩ <;> rcases ee with e1 | ⟨e1, e2⟩
      all_goals (try (exfalso; simp only [decide_eq_true_eq, decide_eq_false_iff_not] at *; omega))
      all_goals
        go_wp2_with (first | (go_at_call 95; refine (ref05_order _ _ _).mono ?_; rintro e w' ⟨rfl, rfl⟩))
        go_ret
        exact ⟨ret_int HV.out.symm, by (repeat' (first | exact Below.refl _ _ | assumption | (refine Below.alloc ?_ ?_ _) | (refine Below.setCell ?_ ?_ _) | (refine Below.drew ?_) | (refine below_drewN ?_ _) | (refine below_after (Ext.below _) ?_ ?_) | (refine below_after (by assumption) ?_ ?_) | (simp; done) | omega | (simp; omega)))⟩
    · have hlt : j < n := by omega
      have hltm : j < m := by omega
      have d1 : decide ((j : Int) < n) = true := decide_eq_true (by omega)
      have d2 : decide ((j : Int) < m) = true := decide_eq_true (by omega)
      have e1 : decide (j < n) = true := decide_eq_true (by omega)
      have e2 : decide (j < m) = true := decide_eq_true (by omega)
      obtain ⟨a, b, s, bo, o, hx, rfl, hbl, g1, g2, g3⟩ := hR.cell hlt
      obtain ⟨a', b', s', bo', o', hy, rfl, hbl', k1, k2, k3⟩ := hS.cell hltm
      by_cases h1 : b = b'
      · by_cases h2 : a = a'
        · by_cases h3 : s = s'
          · subst h1 h2 h3
            have HS : Hid (∀ i, i < j + 1 → l[i]? = r[i]?) := same_step hno.out (hx.out.trans hy.out.symm)
            go_wp2
            (refine wp_region_ext_lit (by kernel_rfl) (by kernel_rfl) ?_; (repeat (go_big_quiet_step (fail))); refine wpQuiet_nil ?_; intro _ hw'; obtain ⟨z2, hw''⟩ := hw'; subst hw''; have hs2 := z2.size; obtain ⟨hc2, hf2⟩ := bcell z2.below; (try simp only [World.size_alloc, World.size_setCell, World.size_drew] at hc2 hf2); (try simp at hs2))
            go_wp2
            (refine wp_region_ext_lit (by kernel_rfl) (by kernel_rfl) ?_; (repeat (go_big_quiet_step (fail))); refine wpQuiet_nil ?_; intro _ hw'; obtain ⟨z3, hw''⟩ := hw'; subst hw''; have hs3 := z3.size; obtain ⟨hc3, hf3⟩ := bcell z3.below; (try simp only [World.size_alloc, World.size_setCell, World.size_drew] at hc3 hf3); (try simp at hs3))
            go_wp2
            (refine wp_region_ext_lit (by kernel_rfl) (by kernel_rfl) ?_; (repeat (go_big_quiet_step (fail))); refine wpQuiet_nil ?_; intro _ hw'; obtain ⟨z4, hw''⟩ := hw'; subst hw''; have hs4 := z4.size; obtain ⟨hc4, hf4⟩ := bcell z4.below; (try simp only [World.size_alloc, World.size_setCell, World.size_drew] at hc4 hf4); (try simp at hs4))
            go_wp2
            go_roundw
            case rel => exact ⟨j + 1, by omega, by omega, by go_num, (by (repeat' (first | exact Below.refl _ _ | assumption | (refine Below.alloc ?_ ?_ _) | (refine Below.setCell ?_ ?_ _) | (refine Below.drew ?_) | (refine below_drewN ?_ _) | (refine below_after (Ext.below _) ?_ ?_) | (refine below_after (by assumption) ?_ ?_) | (simp; done) | omega | (simp; omega)))), HS.out⟩
            case measure => simp [intOf]; omega
          · have HV := Lib.hid ((cmpL_at hno.out hx.out hy.out (fun e => h3 (by injection e with e1 e2; injection e2))).trans (cmpC_s h1 h2))
            subst h1 h2
            have q3 : (s != s') = true := by simpa using h3
            clear h3
            go_wp2
            (refine wp_region_ext_lit (by kernel_rfl) (by kernel_rfl) ?_; (repeat (go_big_quiet_step (fail))); refine wpQuiet_nil ?_; intro _ hw'; obtain ⟨z2, hw''⟩ := hw'; subst hw''; have hs2 := z2.size; obtain ⟨hc2, hf2⟩ := bcell z2.below; (try simp only [World.size_alloc, World.size_setCell, World.size_drew] at hc2 hf2); (try simp at hs2))
            go_wp2
            (refine wp_region_ext_lit (by kernel_rfl) (by kernel_rfl) ?_; (repeat (go_big_quiet_step (fail))); refine wpQuiet_nil ?_; intro _ hw'; obtain ⟨z3, hw''⟩ := hw'; subst hw''; have hs3 := z3.size; obtain ⟨hc3, hf3⟩ := bcell z3.below; (try simp only [World.size_alloc, World.size_setCell, World.size_drew] at hc3 hf3); (try simp at hs3))
            go_wp2
            (refine wp_region_ext_lit (by kernel_rfl) (by kernel_rfl) ?_; (repeat (go_big_quiet_step (fail))); refine wpQuiet_nil ?_; intro _ hw'; obtain ⟨z4, hw''⟩ := hw'; subst hw''; have hs4 := z4.size; obtain ⟨hc4, hf4⟩ := bcell z4.below; (try simp only [World.size_alloc, World.size_setCell, World.size_drew] at hc4 hf4); (try simp at hs4))
            go_wp2
            (refine wp_region_ext_lit (by kernel_rfl) (by kernel_rfl) ?_; (repeat (go_big_quiet_step ((go_at_call 95; exact calls_ext_same (ref05_order _ _ _))))); refine wpQuiet_nil ?_; intro _ hw'; obtain ⟨z5, hw''⟩ := hw'; subst hw''; have hs5 := z5.size; obtain ⟨hc5, hf5⟩ := bcell z5.below; (try simp only [World.size_alloc, World.size_setCell, World.size_drew] at hc5 hf5); (try simp at hs5))
            go_wp2
            go_ret
            exact ⟨ret_int HV.out.symm, by (repeat' (first | exact Below.refl _ _ | assumption | (refine Below.alloc ?_ ?_ _) | (refine Below.setCell ?_ ?_ _) | (refine Below.drew ?_) | (refine below_drewN ?_ _) | (refine below_after (Ext.below _) ?_ ?_) | (refine below_after (by assumption) ?_ ?_) | (simp; done) | omega | (simp; omega)))⟩
        · have HV := Lib.hid ((cmpL_at hno.out hx.out hy.out (fun e => h2 (by injection e))).trans (cmpC_x h1 h2))
          subst h1
          have q2 : (a != a') = true := by simpa using h2
          clear h2
          go_wp2
          (refine wp_region_ext_lit (by kernel_rfl) (by kernel_rfl) ?_; (repeat (go_big_quiet_step (fail))); refine wpQuiet_nil ?_; intro _ hw'; obtain ⟨z2, hw''⟩ := hw'; subst hw''; have hs2 := z2.size; obtain ⟨hc2, hf2⟩ := bcell z2.below; (try simp only [World.size_alloc, World.size_setCell, World.size_drew] at hc2 hf2); (try simp at hs2))
          go_wp2
          (refine wp_region_ext_lit (by kernel_rfl) (by kernel_rfl) ?_; (repeat (go_big_quiet_step (fail))); refine wpQuiet_nil ?_; intro _ hw'; obtain ⟨z3, hw''⟩ := hw'; subst hw''; have hs3 := z3.size; obtain ⟨hc3, hf3⟩ := bcell z3.below; (try simp only [World.size_alloc, World.size_setCell, World.size_drew] at hc3 hf3); (try simp at hs3))
          go_wp2
          (refine wp_region_ext_lit (by kernel_rfl) (by kernel_rfl) ?_; (repeat (go_big_quiet_step ((go_at_call 95; exact calls_ext_same (ref05_order _ _ _))))); refine wpQuiet_nil ?_; intro _ hw'; obtain ⟨z5, hw''⟩ := hw'; subst hw''; have hs5 := z5.size; obtain ⟨hc5, hf5⟩ := bcell z5.below; (try simp only [World.size_alloc, World.size_setCell, World.size_drew] at hc5 hf5); (try simp at hs5))
          go_wp2
          go_ret
          exact ⟨ret_int HV.out.symm, by (repeat' (first | exact Below.refl _ _ | assumption | (refine Below.alloc ?_ ?_ _) | (refine Below.setCell ?_ ?_ _) | (refine Below.drew ?_) | (refine below_drewN ?_ _) | (refine below_after (Ext.below _) ?_ ?_) | (refine below_after (by assumption) ?_ ?_) | (simp; done) | omega | (simp; omega)))⟩
      · have HV := Lib.hid ((cmpL_at hno.out hx.out hy.out (fun e => h1 (by injection e with e1 e2; injection e2))).trans (cmpC_y h1))
        have q1 : (b != b') = true := by simpa using h1
        clear h1
        go_wp2
        (refine wp_region_ext_lit (by kernel_rfl) (by kernel_rfl) ?_; (repeat (go_big_quiet_step (fail))); refine wpQuiet_nil ?_; intro _ hw'; obtain ⟨z2, hw''⟩ := hw'; subst hw''; have hs2 := z2.size; obtain ⟨hc2, hf2⟩ := bcell z2.below; (try simp only [World.size_alloc, World.size_setCell, World.size_drew] at hc2 hf2); (try simp at hs2))
        go_wp2
        (refine wp_region_ext_lit (by kernel_rfl) (by kernel_rfl) ?_; (repeat (go_big_quiet_step ((go_at_call 95; exact calls_ext_same (ref05_order _ _ _))))); refine wpQuiet_nil ?_; intro _ hw'; obtain ⟨z5, hw''⟩ := hw'; subst hw''; have hs5 := z5.size; obtain ⟨hc5, hf5⟩ := bcell z5.below; (try simp only [World.size_alloc, World.size_setCell, World.size_drew] at hc5 hf5); (try simp at hs5))
        go_wp2
        go_ret
        exact ⟨ret_int HV.out.symm, by (repeat' (first | exact Below.refl _ _ | assumption | (refine Below.alloc ?_ ?_ _) | (refine Below.setCell ?_ ?_ _) | (refine Below.drew ?_) | (refine below_drewN ?_ _) | (refine below_after (Ext.below _) ?_ ?_) | (refine below_after (by assumption) ?_ ?_) | (simp; done) | omega | (simp; omega)))⟩
theorem cmpL_same : ∀ (l r : List (Int × Int × Int)), (cmpL l r == 0) = sameL l r
  | [], [] => rfl
  | [], b :: r => rfl
  | a :: l, [] => rfl
  | a :: l, b :: r => by
    have ih := cmpL_same l r
    show ((if a = b then cmpL l r else cmpC a b) == 0) = _
    by_cases e : a = b
    · subst e
      rw [if_pos rfl, ih]
      unfold sameL; simp
    · rw [if_neg e]
      have h1 : (cmpC a b == 0) = false := by simp only [beq_eq_false_iff_ne, ne_eq]; exact fun h => e (cmpC_zero h)
      rw [h1]
      unfold sameL
      symm; exact decide_eq_false (fun h => e (by injection h))
theorem ref05_Same (A B : Option Addr) (n m c d : Nat) (l r : List (Int × Int × Int)) (w : World) (hR : Rd encC 3 w A n l) (hS : Rd encC 3 w B m r) (hn : n ≤ 1000000) (hm : m ≤ 1000000) :
    Calls Tryz.prog 15 #[.slice A n c, .slice B m d] w fun e w' => e = .returned (.bool (sameL l r)) ∧ Below w.heap.size w w' := by
  have hq := cmpL_same l r
  generalize sameL l r = q at hq ⊢
  have HQ := Lib.hid hq
  clear hq
  go_enter Tryz.func15, Tryz.ntmps15
  go_wp2_with (first | (go_at_call 49; refine (ref05_Compare _ _ _ _ _ _ _ _ _ hR hS hn hm).mono ?_; rintro e w1 ⟨rfl, hb1⟩; obtain ⟨hc1, hf1⟩ := bcell hb1; have hs1 := hb1.size; (try simp only [World.size_alloc, World.size_setCell, World.size_drew] at hc1 hf1); (try simp at hs1)))
  go_ret
  exact ⟨ret_bool HQ.out, hb1⟩
end Go.Proofs.YtmenokhnanghgaaGreat
end
