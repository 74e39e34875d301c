/- The contracts of slices.Clone, slices.SortFunc, slices.Compact at positions, and of point.Sort. -/
import Derived.Test.YtnhapgbjaeaamaaDoorProg
import Derived.Test.YtnhapgbjaeaamaaDoorCmp
import Derived.Test.YtnhapgbjaeaamaaDoorSYM
import Derived.Test.YtnhapgbjaeaamaaDoorMEM
import Derived.Shelf.SlGeneric
import Derived.Shelf.SlSortCmp.NoneTotal
import Derived.Ground.SlsfProg
namespace Go.Proofs.YtnhapgbjaeaamaaDoor
open Go Go.RowKit Go.Shelf Go.Sort
set_option linter.unusedSimpArgs false
set_option linter.unusedVariables false
set_option maxRecDepth 100000
attribute [local go_sem ↓ high] eq_pt neq_pt
/-- The order of positions. -/
def befQ (p q : Int × Int) : Bool := befP p.1 p.2 q.1 q.2
def cmpQ (p q : Int × Int) : Int := cmpP p.1 p.2 q.1 q.2
theorem lin_befQ : Lin befQ := by
  refine ⟨fun a => ?_, fun a b c => ?_, fun a b => ?_⟩
  · unfold befQ befP; exact decide_eq_false (by omega)
  · unfold befQ befP; simp only [decide_eq_true_eq]; omega
  · unfold befQ befP; simp only [decide_eq_true_eq]
    obtain ⟨a1, a2⟩ := a
    obtain ⟨b1, b2⟩ := b
    simp only [Prod.mk.injEq]; omega
theorem lt_cmpQ (x y : Int × Int) : ltOf cmpQ x y = befQ x y := by
  unfold ltOf cmpQ cmpP befQ befP orI cmpI
  rw [Bool.eq_iff_iff]
  simp only [decide_eq_true_eq]
  repeat' split
  all_goals omega
theorem swo_of_lin {α : Type} {lt : α → α → Bool} (h : Lin lt) : SWO lt := ⟨h.irr, h.tr, fun x y z h1 h2 => by
  cases h3 : lt x z with
  | false => rfl
  | true =>
    rcases h.tot x y with a | a | a
    · rw [h1] at a; cases a
    · subst a; rw [h2] at h3; cases h3
    · have := h.tr _ _ _ a h3; rw [h2] at this; cases this⟩
theorem swo_cmpQ : SWO (ltOf cmpQ) := by
  have e : ltOf cmpQ = befQ := by funext x y; exact lt_cmpQ x y
  rw [e]; exact swo_of_lin lin_befQ
set_option maxHeartbeats 400000 in
theorem point_CompareG (ax ay bx bx' : Int) (w : World) : Calls Tryd.prog 59 #[.agg #[.int .i64 ax, .int .i64 ay], .agg #[.int .i64 bx, .int .i64 bx']] w fun e w' => e = .returned (.int .i64 (cmpP ax ay bx bx')) ∧ ∃ q os, w' = grow (w.drewN q) os := by
  go_enter Tryd.func59, Tryd.ntmps59
  go_wp2
  refine wp_region_still_tail 10 (by kernel_rfl) (by kernel_rfl) ?_
  simp only [List.take_succ_cons, List.take_zero, List.drop_succ_cons, List.drop_zero]
  change wpStill _ _ (World.drew _) (fun a' => wpList _ _ _ _ a' (World.drew _)) _ _
  have hb : Below (w.heap.size + 2) ((w.alloc (.cells #[.int .i64 ax, .int .i64 ay] 56)).alloc (.cells #[.int .i64 bx, .int .i64 bx'] 56)) ((w.alloc (.cells #[.int .i64 ax, .int .i64 ay] 56)).alloc (.cells #[.int .i64 bx, .int .i64 bx'] 56)).drew := (Below.refl _ _).drew
  have hW : Hid (((w.alloc (.cells #[.int .i64 ax, .int .i64 ay] 56)).alloc (.cells #[.int .i64 bx, .int .i64 bx'] 56)).drew = grow (w.drewN 1) #[.cells #[.int .i64 ax, .int .i64 ay] 56, .cells #[.int .i64 bx, .int .i64 bx'] 56]) := by
    show _ = _
    rw [alloc_eq_grow, alloc_eq_grow, grow_grow]; rfl
  generalize ((w.alloc (.cells #[.int .i64 ax, .int .i64 ay] 56)).alloc (.cells #[.int .i64 bx, .int .i64 bx'] 56)).drew = W at hb hW ⊢
  have hs := hb.size
  simp only [World.size_alloc] at hs
  have c0 : W.cell? ⟨w.heap.size, 0, none⟩ = some (.int .i64 ax) := by rw [hb.cell (p := ⟨w.heap.size, 0, none⟩) (by show w.heap.size < _; omega)]; simp [cell_alloc_if, cellOf]
  have c1 : W.cell? ⟨w.heap.size, 1, none⟩ = some (.int .i64 ay) := by rw [hb.cell (p := ⟨w.heap.size, 1, none⟩) (by show w.heap.size < _; omega)]; simp [cell_alloc_if, cellOf]
  have c2 : W.cell? ⟨w.heap.size + 1, 0, none⟩ = some (.int .i64 bx) := by rw [hb.cell (p := ⟨w.heap.size + 1, 0, none⟩) (by show w.heap.size + 1 < _; omega)]; simp [cell_alloc_if, cellOf]
  have c3 : W.cell? ⟨w.heap.size + 1, 1, none⟩ = some (.int .i64 bx') := by rw [hb.cell (p := ⟨w.heap.size + 1, 1, none⟩) (by show w.heap.size + 1 < _; omega)]; simp [cell_alloc_if, cellOf]
  repeat still_step
  still_call (cmp_CompareS _ _ _)
  repeat still_step
  still_call (cmp_CompareS _ _ _)
  refine wpStill_nil ?_
  have hl := (Own.lit encI_len W 3 W.heap.size (Nat.le_refl _) [cmpI ay bx', cmpI ax bx] 2 rfl (by omega) [.int .i64 (cmpI ay bx'), .int .i64 (cmpI ax bx)] rfl).rd encI_len
  show wpList _ _ _ _ _ _
  go_wp2_with fail
  go_at_call 65
  refine (cmp_Or2 _ _ _ _ _ hl).mono ?_
  rintro e w' ⟨rfl, rfl⟩
  go_wp2_with fail
  go_ret
  exact ⟨rfl, 1, _, by rw [hW.out, alloc_eq_grow, grow_grow]⟩
end Go.Proofs.YtnhapgbjaeaamaaDoor
