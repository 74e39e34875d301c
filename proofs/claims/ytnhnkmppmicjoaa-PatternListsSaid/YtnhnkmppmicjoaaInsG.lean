/- slices.Insert of one cell ahead of the end, where there is no room. -/
import Derived.Test.YtnhnkmppmicjoaaInsC
import Derived.Test.YtnhnkmppmicjoaaRawRow
namespace Go.Proofs.Ytnhnkmppmicjoaa
open Go Go.RowKit
set_option linter.unusedSimpArgs false
set_option linter.unusedVariables false
set_option maxRecDepth 100000
attribute [local go_sem ↓ high] eq_cl neq_cl eq_pt neq_pt
set_option maxHeartbeats 4000000 in
theorem insert_grow (B g n k vc : Nat) (l : List (Int × Int × Int)) (x y s : Int) (w : World) (hB : B ≤ w.heap.size) (hO : Own encC 3 50 B w (some ⟨g, 0, none⟩) n n l) (hk : k < n) (hn : n ≤ 1000000) :
    Calls Try.prog 77 #[.slice (some ⟨g, 0, none⟩) n n, .int .i64 k, .slice (some ⟨w.heap.size, 0, none⟩) 1 vc] (w.alloc (.cells #[.int .i64 x, .int .i64 y, .int .i64 s] 50)) fun e w' => ∃ A' c', e = .returned (.slice A' (n + 1) c') ∧ Rd encC 3 w' A' (n + 1) (l.take k ++ (x, y, s) :: l.drop k) ∧ Below B w w' := by
  have hgw := (own_lt hO).2
  have hlen := hO.len
  have hOa := hO.alloc (.cells #[.int .i64 x, .int .i64 y, .int .i64 s] 50)
  have hb0 : Below B w (w.alloc (.cells #[.int .i64 x, .int .i64 y, .int .i64 s] 50)) := (Below.refl _ _).alloc hB _
  have hcn := cells_new w (encC (x, y, s)) 50
  obtain ⟨W, hW⟩ : ∃ W, W = w.alloc (.cells #[.int .i64 x, .int .i64 y, .int .i64 s] 50) := ⟨_, rfl⟩
  have hsW : W.heap.size = w.heap.size + 1 := by rw [hW]; simp
  rw [show (w.alloc (.cells (encC (x, y, s)).toArray 50)) = W by rw [hW]; rfl] at hcn
  rw [← hW] at hOa hb0 ⊢
  clear hW
  have hold : (Builtin.firstCells Try.t50.size k (.slice (some ⟨g, 0, none⟩) k n)).run Try.prog W.drew = .ok ((l.take k).flatMap encC).toArray W.drew :=
    run_firstCells_some W.drew 3 k ⟨g, 0, none⟩ k n _ (by rw [flatMap_len encC_len]; simp [hlen]; omega) (fun j v hj => by
      rw [Addr.add_lit, Nat.zero_add]
      rw [flatMap_take encC_len, List.getElem?_take] at hj
      split at hj
      · rw [(own_cells encC_len hOa.drew (show j < n * 3 by omega)).1]; exact hj
      · cases hj)
  obtain ⟨G, hG⟩ : ∃ G, G = grownCap W (n + 1) n 50 := ⟨_, rfl⟩
  have hGn : n + 1 ≤ G := by rw [hG]; exact grownCap_ge W _ _ _
  have hGm : G ≤ maxLen := by rw [hG]; exact grownCap_le_maxLen W _ _ _ (by unfold maxLen; omega)
  obtain ⟨ROW, hROW⟩ : ∃ ROW : Array Value, ROW = ((l.take k).flatMap encC).toArray ++ Builtin.zeroCells (Value.agg #[.int .i64 0, .int .i64 0, .int .i64 0]).cells (n + 1 - k) ++ Builtin.zeroCells (Value.agg #[.int .i64 0, .int .i64 0, .int .i64 0]).cells (G - (n + 1)) := ⟨_, rfl⟩
  have hRs : ROW.size = G * 3 := by
    rw [hROW, Array.size_append, Array.size_append, size_zeroCells, size_zeroCells, List.size_toArray, flatMap_len encC_len, List.length_take, hlen]
    simp [Value.cells]; omega
  have hRt : ROW.toList.take (k * 3) = (l.take k).flatMap encC := by
    rw [hROW, Array.toList_append, Array.toList_append, List.append_assoc, List.take_left' (by simp [flatMap_len encC_len, hlen]; omega)]
  have hkk : (n : Int) + 1 - (k : Int) = ((n + 1 - k : Nat) : Int) := by omega
  have hrz : ∀ ty, (Builtin.append_ #[47, 3] ty #[.slice (some ⟨g, 0, none⟩) k n, .int .i64 ((n : Int) + 1 - (k : Int))]).run Try.prog W = .ok (.slice (some ⟨W.heap.size, 0, none⟩) (n + 1) G) (W.drew.alloc (.cells ROW 50)) := fun ty => by
    have h := Lib.run_append_grow_zeros W 47 3 ty 50 Try.t50 (.agg #[.int .i64 0, .int .i64 0, .int .i64 0]) .i64 .i64 Try.underlying47 Try.underlying3 (by kernel_rfl) (by rfl) (some ⟨g, 0, none⟩) k n _ hold (n + 1 - k) (by omega) (by decide) (by omega) (by omega) (by show (n + 1 - k) * 24 ≤ _; omega) (by show Builtin.nextslicecap _ _ * 24 ≤ _; rw [show k + (n + 1 - k) = n + 1 by omega]; exact growslice_fits (by omega) (by omega))
    rw [show k + (n + 1 - k) = n + 1 by omega] at h
    rw [hkk, hROW, hG]
    exact h
  obtain ⟨W1, hW1⟩ : ∃ W1, W1 = W.drew.alloc (.cells ROW 50) := ⟨_, rfl⟩
  rw [← hW1] at hrz
  have hBl1 : Below W.heap.size W W1 := by rw [hW1]; exact (Below.refl _ _).drew.alloc (Nat.le_refl _) _
  have hraw : W1.ownsRow B 50 3 (.slice (some ⟨W.heap.size, 0, none⟩) (n + 1) G) (n + 1) (ROW.toList.take ((n + 1) * 3)) := by
    rw [hW1]
    exact ⟨by rw [List.length_take, Array.length_toList, hRs]; omega, .inr ⟨W.heap.size, G, ROW, rfl, by omega, heap_alloc_new W.drew _, hGn, hGm, hRs, rfl⟩⟩
  have hx1 : (ROW.toList.take ((n + 1) * 3)).take (k * 3) = (l.take k).flatMap encC := by rw [List.take_take, ← hRt]; congr 1; omega
  have hz1 : (ROW.toList.take ((n + 1) * 3)).length = (n + 1) * 3 := by rw [List.length_take, Array.length_toList, hRs]; omega
  have hr2 := row_put (encC (x, y, s)) (k * 3) W1 _ hraw
  have hfin := raw_ins encC_len hlen (Nat.le_of_lt hk) hx1 hz1 (x, y, s)
  obtain ⟨W2, hW2⟩ : ∃ W2, W2 = W1.setCells W.heap.size (k * 3) (encC (x, y, s)) := ⟨_, rfl⟩
  rw [← hW2] at hr2
  have hr3 := row_put ((l.drop k).flatMap encC) ((k + 1) * 3) W2.drew _ hr2
  rw [hfin] at hr3
  have c1 : ∀ j, j < (n + 1) * 3 → (W1.cell? ⟨W.heap.size, j, none⟩).isSome = true ∧ W1.frozen? ⟨W.heap.size, j, none⟩ = false := fun j hj => ⟨by rw [hraw.cellAt j hj, List.getElem?_eq_getElem (by rw [hz1]; exact hj)]; rfl, hraw.frozenAt j⟩
  have c2 : ∀ j, j < (n + 1) * 3 → (W2.cell? ⟨W.heap.size, j, none⟩).isSome = true ∧ W2.frozen? ⟨W.heap.size, j, none⟩ = false := fun j hj => ⟨by rw [hr2.cellAt j hj, List.getElem?_eq_getElem (by rw [hr2.1]; exact hj)]; rfl, hr2.frozenAt j⟩
  have hcA : ∀ ty dc, (Builtin.copy_ #[47, 46] ty #[.slice (some ⟨W.heap.size, k * 3, none⟩) (n + 1 - k) dc, .slice (some ⟨w.heap.size, 0, none⟩) 1 vc]).run Try.prog W1 = .ok (goInt 1) W2 := fun ty dc => by
    rw [hW2]
    exact run_copy_k W1 _ _ ty 50 3 _ _ _ _ ⟨w.heap.size, 0, none⟩ 1 vc 1 _ Try.underlying47 (by kernel_rfl) (by simp only [Nat.min_def]; split <;> omega) (encC_len _)
      (fun j v hj => by have h1 := hcn j v hj; rw [Addr.add_lit] at h1 ⊢; have h2 := (hBl1.cell (p := ⟨w.heap.size, 0 + j, none⟩) (by show w.heap.size < _; omega)); exact h2.trans h1)
      (fun j hj => (c1 _ (by rw [encC_len] at hj; omega)).1) (fun j hj => (c1 _ (by rw [encC_len] at hj; omega)).2) (encC_one _)
  have hdl : ((l.drop k).flatMap encC).length = (n - k) * 3 := by rw [flatMap_len encC_len]; simp [hlen]
  have hcB : ∀ ty dc sc, (Builtin.copy_ #[47, 47] ty #[.slice (some ⟨W.heap.size, (k + 1) * 3, none⟩) (n + 1 - (k + 1)) dc, .slice (some ⟨g, k * 3, none⟩) (n - k) sc]).run Try.prog W2.drew = .ok (goInt ((n - k : Nat) : Int)) (W2.drew.setCells W.heap.size ((k + 1) * 3) ((l.drop k).flatMap encC)) := fun ty dc sc =>
    run_copy_k W2.drew _ _ ty 50 3 _ _ _ _ ⟨g, k * 3, none⟩ (n - k) sc (n - k) _ Try.underlying47 (by kernel_rfl) (by simp only [Nat.min_def]; split <;> omega) hdl
      (fun j v hj => by
        have hj2 := (List.getElem?_eq_some_iff.1 hj).1
        rw [hdl] at hj2
        rw [Addr.add_lit]
        show W2.cell? _ = _
        rw [hW2, World.cell?_setCells_out _ _ _ _ _ (fun h _ => absurd h (by show g ≠ W.heap.size; omega))]
        rw [flatMap_drop encC_len, List.getElem?_drop] at hj
        exact (hBl1.cell (p := ⟨g, k * 3 + j, none⟩) (by show g < _; omega)).trans ((own_cells encC_len hOa (by omega)).1.trans hj))
      (fun j hj => (c2 _ (by rw [hdl] at hj; omega)).1) (fun j hj => (c2 _ (by rw [hdl] at hj; omega)).2) (fun u hu => by
        obtain ⟨q, _, hq⟩ := List.mem_flatMap.1 hu
        exact encC_one q u hq)
  have HFin : Hid (Rd encC 3 (W2.drew.setCells W.heap.size ((k + 1) * 3) ((l.drop k).flatMap encC)) (some ⟨W.heap.size, 0, none⟩) (n + 1) (l.take k ++ (x, y, s) :: l.drop k)) := by
    have h : Own encC 3 50 B (W2.drew.setCells W.heap.size ((k + 1) * 3) ((l.drop k).flatMap encC)) (some ⟨W.heap.size, 0, none⟩) (n + 1) G (l.take k ++ (x, y, s) :: l.drop k) := ⟨hr3, by simp [hlen]; omega⟩
    exact h.rd encC_len
  have HBel : Hid (Below B w (W2.drew.setCells W.heap.size ((k + 1) * 3) ((l.drop k).flatMap encC))) := by
    refine below_setCells (by omega) _ _ _ _ (Below.drew ?_)
    rw [hW2]
    exact below_setCells (by omega) _ _ _ _ (below_after hBl1 hb0 (by omega))
  have hGk : ¬ (G = k) := by omega
  have hGk1 : ¬ (G = k + 1) := by omega
  have hnk : ¬ (n = k) := by omega
  have hkn : k ≤ n := by omega
  have w1 : IntKind.i64.wrap ((k : Int) + 1) = (k : Int) + 1 := IntWalk.i64_in _ (by omega)
  have w2 : IntKind.i64.wrap ((n : Int) + 1) = (n : Int) + 1 := IntWalk.i64_in _ (by omega)
  have w3 : IntKind.i64.wrap ((n : Int) + 1 - (k : Int)) = (n : Int) + 1 - (k : Int) := IntWalk.i64_in _ (by omega)
  have d1 : ((k : Int) == (n : Int)) = false := by simp only [beq_eq_false_iff_ne, ne_eq]; omega
  have d2 : decide ((n : Int) < (n : Int) + 1) = true := decide_eq_true (by omega)
  have p1 : (0 : Int) ≤ (k : Int) + 1 := by omega
  have p2 : (k : Int) ≤ (n : Int) := by omega
  have p3 : (k : Int) + 1 ≤ (n : Int) + 1 := by omega
  have p4 : ((k : Int) + 1).toNat = k + 1 := by omega
  have p5 : k ≤ n + 1 := by omega
  clear hW1 hW2 hsW hraw hr2 hr3 hx1 hz1 hfin c1 c2 hROW hG hRs hRt hkk hold hdl hcn hBl1 hOa hO
  go_enter Try.func77, Try.ntmps77
  go_wp2_with (first
    | (at_builtin; refine Lib.wpList_append_run _ rfl _ _ _ _ rfl _ _ rfl rfl _ _ (hrz _) ?_)
    | (at_builtin; refine wpList_copy_runI _ rfl _ _ 47 46 rfl _ _ rfl rfl (hcA _ _) ?_))
  go_region_law (refine step_copy_runI rfl (.tmp 50) (.tmp 53) 47 47 rfl (.slice (some ⟨W.heap.size, (k + 1) * 3, none⟩) (n + 1 - (k + 1)) (G - (k + 1))) (.slice (some ⟨g, k * 3, none⟩) (n - k) (n - k)) (by simp [Act.eval, Act.put]) (by simp [Act.eval, Act.put]) (hcB _ _ _) ?_)
  go_wp2
  go_ret
  first | exact ⟨_, G, rfl, HFin.out, HBel.out⟩ | exact ⟨_, ⟨G, rfl⟩, HFin.out, HBel.out⟩
end Go.Proofs.Ytnhnkmppmicjoaa
