/- slices.Insert of one cell ahead of the end, where there is room. -/
import Derived.Test.YtnhnkmppmicjoaaInsC
import Derived.Test.YtnhnkmppmicjoaaRawRow
import Derived.Shelf.Spec.SlicesInsert
namespace Go.Proofs.Ytnhnkmppmicjoaa
open Go Go.RowKit
set_option linter.unusedSimpArgs false
set_option linter.unusedVariables false
set_option maxRecDepth 100000
attribute [local go_sem ↓ high] eq_cl neq_cl eq_pt neq_pt
set_option maxHeartbeats 4000000 in
theorem insert_room (B g n c k vc : Nat) (l : List (Int × Int × Int)) (x y s : Int) (w : World) (hB : B ≤ w.heap.size) (hO : Own encC 3 50 B w (some ⟨g, 0, none⟩) n c l) (hk : k < n) (hn : n ≤ 1000000) (hnc : n + 1 ≤ c) :
    Calls Try.prog 77 #[.slice (some ⟨g, 0, none⟩) n c, .int .i64 k, .slice (some ⟨w.heap.size, 0, none⟩) 1 vc] (w.alloc (.cells #[.int .i64 x, .int .i64 y, .int .i64 s] 50)) fun e w' => ∃ A' c', e = .returned (.slice A' (n + 1) c') ∧ Rd encC 3 w' A' (n + 1) (l.take k ++ (x, y, s) :: l.drop k) ∧ Below B w w' := by
  have hgw := (own_lt hO).2
  have hlen := hO.len
  have hOa := hO.alloc (.cells #[.int .i64 x, .int .i64 y, .int .i64 s] 50)
  have hb0 : Below B w (w.alloc (.cells #[.int .i64 x, .int .i64 y, .int .i64 s] 50)) := (Below.refl _ _).alloc hB _
  have hcn := cells_new w (encC (x, y, s)) 50
  obtain ⟨W, hW⟩ : ∃ W, W = w.alloc (.cells #[.int .i64 x, .int .i64 y, .int .i64 s] 50) := ⟨_, rfl⟩
  have hsW : W.heap.size = w.heap.size + 1 := by rw [hW]; simp
  have hsa : W.shape? w.heap.size = some (50, 3) := by rw [hW]; unfold World.shape?; rw [heap_alloc_new]; rfl
  have hfa : W.frozen? ⟨w.heap.size, 0, none⟩ = false := by rw [hW, frozen_alloc_if, if_neg (by omega)]
  have hfe : W.frozen? { block := w.heap.size, off := 3 } = false := by rw [hW]; exact (frozen_alloc_if w _ _ w.heap.size 3).trans (if_neg (by omega))
  rw [show (w.alloc (.cells (encC (x, y, s)).toArray 50)) = W by rw [hW]; rfl] at hcn
  rw [← hW] at hOa hb0 ⊢
  clear hW
  obtain ⟨cur, hh, hgB, _, hcm, hcs, hcl⟩ := own_block hOa
  have hsb : W.shape? g = some (50, c * 3) := by unfold World.shape?; rw [hh, ← hcs]
  have hc63 : c ≤ 9223372036854775807 := by unfold maxLen at hcm; omega
  have hnm : n + 1 ≤ maxLen := by omega
  have hct : cur.toList.length = c * 3 := by simpa using hcs
  have hraw : W.drew.ownsRow B 50 3 (.slice (some ⟨g, 0, none⟩) (n + 1) c) (n + 1) (cur.toList.take ((n + 1) * 3)) :=
    ⟨by rw [List.length_take, hct]; omega, .inr ⟨g, c, cur, rfl, hgB, hh, hnc, hcm, hcs, rfl⟩⟩
  have hx1 : (cur.toList.take ((n + 1) * 3)).take (k * 3) = (l.take k).flatMap encC := by
    rw [List.take_take, flatMap_take encC_len, ← hcl, List.take_take]
    congr 1; omega
  have hz1 : (cur.toList.take ((n + 1) * 3)).length = (n + 1) * 3 := by rw [List.length_take, hct]; omega
  have hr2 := row_put ((l.drop k).flatMap encC) ((k + 1) * 3) W.drew _ hraw
  obtain ⟨W2, hW2⟩ : ∃ W2, W2 = W.drew.setCells g ((k + 1) * 3) ((l.drop k).flatMap encC) := ⟨_, rfl⟩
  rw [← hW2] at hr2
  have hr3 := row_put (encC (x, y, s)) (k * 3) W2 _ hr2
  rw [raw_ins' encC_len hlen (Nat.le_of_lt hk) hx1 hz1 (x, y, s)] at hr3
  have c1 : ∀ j, j < (n + 1) * 3 → (W.drew.cell? ⟨g, j, none⟩).isSome = true ∧ W.drew.frozen? ⟨g, j, none⟩ = false := fun j hj => ⟨by rw [hraw.cellAt j hj, List.getElem?_eq_getElem (by rw [hz1]; exact hj)]; rfl, hraw.frozenAt j⟩
  have c2 : ∀ j, j < (n + 1) * 3 → (W2.cell? ⟨g, j, none⟩).isSome = true ∧ W2.frozen? ⟨g, j, none⟩ = false := fun j hj => ⟨by rw [hr2.cellAt j hj, List.getElem?_eq_getElem (by rw [hr2.1]; exact hj)]; rfl, hr2.frozenAt j⟩
  have hdl : ((l.drop k).flatMap encC).length = (n - k) * 3 := by rw [flatMap_len encC_len]; simp [hlen]
  have hcA : ∀ ty dc sc, (Builtin.copy_ #[47, 47] ty #[.slice (some ⟨g, (k + 1) * 3, none⟩) (n + 1 - (k + 1)) dc, .slice (some ⟨g, k * 3, none⟩) (n + 1 - k) sc]).run Try.prog W.drew = .ok (goInt ((n - k : Nat) : Int)) W2 := fun ty dc sc => by
    rw [hW2]
    exact run_copy_k W.drew _ _ ty 50 3 _ _ _ _ ⟨g, k * 3, none⟩ (n + 1 - k) sc (n - k) _ Try.underlying47 (by kernel_rfl) (by simp only [Nat.min_def]; split <;> omega) hdl
      (fun j v hj => by
        have hj2 := (List.getElem?_eq_some_iff.1 hj).1
        rw [hdl] at hj2
        rw [Addr.add_lit]
        rw [flatMap_drop encC_len, List.getElem?_drop] at hj
        exact (own_cells encC_len hOa (by omega)).1.trans hj)
      (fun j hj => (c1 _ (by rw [hdl] at hj; omega)).1) (fun j hj => (c1 _ (by rw [hdl] at hj; omega)).2) (fun u hu => by
        obtain ⟨q, _, hq⟩ := List.mem_flatMap.1 hu
        exact encC_one q u hq)
  have hcB : ∀ ty dc, (Builtin.copy_ #[47, 46] ty #[.slice (some ⟨g, k * 3, none⟩) (n + 1 - k) dc, .slice (some ⟨w.heap.size, 0, none⟩) 1 vc]).run Try.prog W2 = .ok (goInt 1) (W2.setCells g (k * 3) (encC (x, y, s))) := fun ty dc =>
    run_copy_k W2 _ _ ty 50 3 _ _ _ _ ⟨w.heap.size, 0, none⟩ 1 vc 1 _ Try.underlying47 (by kernel_rfl) (by simp only [Nat.min_def]; split <;> omega) (encC_len _)
      (fun j v hj => by
        have h1 := hcn j v hj
        rw [Addr.add_lit] at h1 ⊢
        rw [hW2, World.cell?_setCells_out _ _ _ _ _ (fun h _ => absurd h (by show w.heap.size ≠ g; omega))]
        exact h1)
      (fun j hj => (c2 _ (by rw [encC_len] at hj; omega)).1) (fun j hj => (c2 _ (by rw [encC_len] at hj; omega)).2) (encC_one _)
  have HFin : Hid (Rd encC 3 (W2.setCells g (k * 3) (encC (x, y, s))) (some ⟨g, 0, none⟩) (n + 1) (l.take k ++ (x, y, s) :: l.drop k)) := by
    have h : Own encC 3 50 B (W2.setCells g (k * 3) (encC (x, y, s))) (some ⟨g, 0, none⟩) (n + 1) c (l.take k ++ (x, y, s) :: l.drop k) := ⟨hr3, by simp [hlen]; omega⟩
    exact h.rd encC_len
  have HBel : Hid (Below B w (W2.setCells g (k * 3) (encC (x, y, s)))) := by
    refine below_setCells hgB _ _ _ _ ?_
    rw [hW2]
    exact below_setCells hgB _ _ _ _ (Below.drew hb0)
  have hov : ∀ lb cb, (callFunc 82 #[.slice (some ⟨w.heap.size, 0, none⟩) 1 vc, .slice (some ⟨g, (k + 1) * 3, none⟩) lb cb]).run Try.prog W = .ok (.value (.bool false)) W := fun lb cb => by
    rw [run_callFunc_extern Try.func82 (by kernel_rfl) (by kernel_rfl) (by kernel_rfl) (e := Extern.SlicesOverlaps.overlaps #[46, 46] #[4]) (by kernel_rfl),
      Lib.run_overlaps_apart W 46 4 50 Try.underlying46 3 (fun _ => by kernel_rfl) ⟨w.heap.size, 0, none⟩ ⟨g, (k + 1) * 3, none⟩ 1 vc lb cb (by show w.heap.size ≠ g; omega) _ _ _ _ hsa hsb (by omega) hfa hfe]
    rfl
  have hGk : ¬ (c = k) := by omega
  have hGk1 : ¬ (c = k + 1) := by omega
  have hnk : ¬ (n = k) := by omega
  have hkn : k ≤ n := by omega
  have w1 : IntKind.i64.wrap ((k : Int) + 1) = (k : Int) + 1 := IntWalk.i64_in _ (by omega)
  have w2 : IntKind.i64.wrap ((n : Int) + 1) = (n : Int) + 1 := IntWalk.i64_in _ (by omega)
  have d1 : ((k : Int) == (n : Int)) = false := by simp only [beq_eq_false_iff_ne, ne_eq]; omega
  have d2 : decide ((c : Int) < (n : Int) + 1) = false := decide_eq_false (by omega)
  have p1 : (0 : Int) ≤ (k : Int) + 1 := by omega
  have p2 : (k : Int) ≤ (n : Int) := by omega
  have p3 : (k : Int) + 1 ≤ (n : Int) + 1 := by omega
  have p4 : ((k : Int) + 1).toNat = k + 1 := by omega
  have p5 : k ≤ n + 1 := by omega
  have p6 : ((n : Int) + 1).toNat = n + 1 := by omega
  have p7 : (k : Int) ≤ (n : Int) + 1 := by omega
  clear hW2 hsW hraw hr2 hr3 hx1 hz1 c1 c2 hdl hcn hOa hO hh hcs hcl hct hsa hsb hfa hfe
  go_enter Try.func77, Try.ntmps77
  go_wp2_with (simp only [hov])
  go_region_law (refine step_copy_runI rfl (.tmp 73) (.tmp 76) 47 47 rfl (.slice (some ⟨g, (k + 1) * 3, none⟩) (n + 1 - (k + 1)) (c - (k + 1))) (.slice (some ⟨g, k * 3, none⟩) (n + 1 - k) (c - k)) (by simp [Act.eval, Act.put]) (by simp [Act.eval, Act.put]) (hcA _ _ _) ?_)
  go_wp2_with (at_builtin; refine wpList_copy_runI _ rfl _ _ 47 46 rfl _ _ rfl rfl (hcB _ _) ?_)
  go_ret
  first | exact ⟨_, c, rfl, HFin.out, HBel.out⟩ | exact ⟨_, ⟨c, rfl⟩, HFin.out, HBel.out⟩
end Go.Proofs.Ytnhnkmppmicjoaa
