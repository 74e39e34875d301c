/- The comparisons of cells in algebra and island, for slices.SortFunc. -/
import Derived.Test.YtenckggfgbkfnaaSortC
namespace Go.Proofs.Ytenckggfgbkfnaa
open Go Go.RowKit Go.Shelf Go.Sort
set_option linter.unusedSimpArgs false
set_option linter.unusedVariables false
set_option maxRecDepth 100000
theorem below_grow {B : Nat} {w W : World} (h : Below B w W) (hB : B ≤ W.heap.size) (os : Array Obj) : Below B w (grow W os) :=
  ⟨h.os, h.tape, h.output, by have := h.size; simp [grow]; omega, fun i hi => by
    rw [← h.block i hi]; simp only [grow]; exact Array.getElem?_append_left (by omega)⟩
theorem isl_placeG (ax ay sa bx bx' bs : Int) (w : World) : Calls Try.prog 21 #[.agg #[.int .i64 ax, .int .i64 ay, .int .i64 sa], .agg #[.int .i64 bx, .int .i64 bx', .int .i64 bs]] w fun e w' => e = .returned (.int .i64 (cmpP ax ay bx bx')) ∧ ∃ q os, w' = grow (w.drewN q) os := by
  go_enter Try.func21, Try.ntmps21
  go_wp2
  refine wp_region_still_tail 10 (by kernel_rfl) (by kernel_rfl) ?_
  simp only [List.take_succ_cons, List.take_zero, List.drop_succ_cons, List.drop_zero]
  change wpStill _ _ (World.drew _) (fun a' => wpList _ _ _ _ a' (World.drew _)) _ _
  have hb : Below (w.heap.size + 2) ((w.alloc (.cells #[.int .i64 ax, .int .i64 ay, .int .i64 sa] 39)).alloc (.cells #[.int .i64 bx, .int .i64 bx', .int .i64 bs] 39)) ((w.alloc (.cells #[.int .i64 ax, .int .i64 ay, .int .i64 sa] 39)).alloc (.cells #[.int .i64 bx, .int .i64 bx', .int .i64 bs] 39)).drew := (Below.refl _ _).drew
  have hW : Hid (((w.alloc (.cells #[.int .i64 ax, .int .i64 ay, .int .i64 sa] 39)).alloc (.cells #[.int .i64 bx, .int .i64 bx', .int .i64 bs] 39)).drew = grow (w.drewN 1) #[.cells #[.int .i64 ax, .int .i64 ay, .int .i64 sa] 39, .cells #[.int .i64 bx, .int .i64 bx', .int .i64 bs] 39]) := by
    show _ = _
    rw [alloc_eq_grow, alloc_eq_grow, grow_grow]; rfl
  generalize ((w.alloc (.cells #[.int .i64 ax, .int .i64 ay, .int .i64 sa] 39)).alloc (.cells #[.int .i64 bx, .int .i64 bx', .int .i64 bs] 39)).drew = W at hb hW ⊢
  have hs := hb.size
  simp only [World.size_alloc] at hs
  have c0 : W.cell? ⟨w.heap.size, 0, none⟩ = some (.int .i64 ax) := by rw [hb.cell (p := ⟨w.heap.size, 0, none⟩) (by show w.heap.size < _; omega)]; simp [cell_alloc_if, cellOf]
  have c1 : W.cell? ⟨w.heap.size, 1, none⟩ = some (.int .i64 ay) := by rw [hb.cell (p := ⟨w.heap.size, 1, none⟩) (by show w.heap.size < _; omega)]; simp [cell_alloc_if, cellOf]
  have c2 : W.cell? ⟨w.heap.size + 1, 0, none⟩ = some (.int .i64 bx) := by rw [hb.cell (p := ⟨w.heap.size + 1, 0, none⟩) (by show w.heap.size + 1 < _; omega)]; simp [cell_alloc_if, cellOf]
  have c3 : W.cell? ⟨w.heap.size + 1, 1, none⟩ = some (.int .i64 bx') := by rw [hb.cell (p := ⟨w.heap.size + 1, 1, none⟩) (by show w.heap.size + 1 < _; omega)]; simp [cell_alloc_if, cellOf]
  repeat still_step
  still_call (cmp_CompareS _ _ _)
  repeat still_step
  still_call (cmp_CompareS _ _ _)
  refine wpStill_nil ?_
  have hl := (Own.lit encI_len W 3 W.heap.size (Nat.le_refl _) [cmpI ay bx', cmpI ax bx] 2 rfl (by omega) [.int .i64 (cmpI ay bx'), .int .i64 (cmpI ax bx)] rfl).rd encI_len
  show wpList _ _ _ _ _ _
  go_wp2_with fail
  go_at_call 38
  refine (cmp_Or2 _ _ _ _ _ hl).mono ?_
  rintro e w' ⟨rfl, rfl⟩
  go_wp2_with fail
  go_ret
  exact ⟨rfl, 1, _, by rw [hW.out, alloc_eq_grow, grow_grow]⟩
/-- slices.SortFunc at a row of the call's own, with a comparison that is a strict weak order. -/
theorem isl_place_sort (B : Nat) (A : Option Addr) (n c : Nat) (l : List (Int × Int × Int)) (w : World) (hown : Own encC 3 39 B w A n c l) (hB : B ≤ w.heap.size) (hn : n ≤ 1000000) :
    Calls Try.prog 20 #[.slice A n c, .func (.func 21) #[] #[]] w fun e w' => e = .returned (.tuple #[]) ∧ ∃ l', Own encC 3 39 B w' A n c l' ∧ l'.Perm l ∧ WC l' ∧ Below B w w' := by
  have eg : ∀ args w, (callFunc 21 args).run Try.prog w = .ok (.enter 21 args) w := enters_of Try.func21 (by kernel_rfl) rfl
  refine (sortFunc_ce 21 cmpO swo_cmpO eg (fun x y W => isl_placeG x.1 x.2.1 x.2.2 y.1 y.2.1 y.2.2 W) B A n c l w hown hB hn).mono ?_
  rintro e w' ⟨rfl, l', h1, h2, h3, h4⟩
  exact ⟨rfl, l', h1, h2, h3.imp fun {a b} h => by rw [lt_cmpO] at h; exact h, h4⟩
theorem isl_place_cmp (ax ay sa bx bx' bs : Int) (w : World) : Calls Try.prog 21 #[.agg #[.int .i64 ax, .int .i64 ay, .int .i64 sa], .agg #[.int .i64 bx, .int .i64 bx', .int .i64 bs]] w fun e w' => e = .returned (.int .i64 (cmpP ax ay bx bx')) ∧ Below w.heap.size w w' :=
  (isl_placeG ax ay sa bx bx' bs w).mono fun e w' ⟨h1, q, os, h2⟩ => ⟨h1, by rw [h2]; exact below_grow (below_drewN (Below.refl _ _) q) (Nat.le_refl _) os⟩
end Go.Proofs.Ytenckggfgbkfnaa
