/- The matrices of symmetry out of the listed variables of the rows of cellulartop. -/
import Derived.Test.YtellglbmbocgkaaGreatDoorRowV
import Derived.Test.YtellglbmbocgkaaGreatDoorALB
namespace Go.Proofs.YtellglbmbocgkaaGreatDoor
open Go Go.ChangeShapes Go.WideShapes Go.ChangeAt Go.RowKit Go.Joins
set_option linter.unusedSimpArgs false
set_option linter.unusedVariables false
set_option maxRecDepth 100000
theorem gMat : Tryz.prog.globalNamed "cellular/symmetry.matrices" = some 0 := by kernel_rfl
theorem tMat : (Tryz.prog.globals[0]?).map (·.type) = some 224 := by kernel_rfl
/-- What a row of the table reads as. -/
def matD {H : Type} (r : Nat) : DataW H := .agg [.lit (.int .i64 (mat r 0)), .lit (.int .i64 (mat r 1)), .lit (.int .i64 (mat r 2)), .lit (.int .i64 (mat r 3))]
theorem laid_mat : ∀ r, r < 8 → ∀ xs : List (DataW Unit), Rows.laid_cellular_symmetry_matrices = .agg xs → xs[r]? = some (matD r) := by
  intro r hr xs h
  injection h with h
  subst h
  have hc : r = 0 ∨ r = 1 ∨ r = 2 ∨ r = 3 ∨ r = 4 ∨ r = 5 ∨ r = 6 ∨ r = 7 := by omega
  rcases hc with rfl | rfl | rfl | rfl | rfl | rfl | rfl | rfl <;> rfl
theorem matD_at {r j : Nat} (hj : j < 4) {xs : List (DataW Unit)} (h : matD r = .agg xs) : xs[j]? = some (.lit (.int .i64 (mat r j))) := by
  injection h with h
  subst h
  have hc : j = 0 ∨ j = 1 ∨ j = 2 ∨ j = 3 := by omega
  rcases hc with rfl | rfl | rfl | rfl <;> rfl
theorem get_of_slice {cs : List Value} {i : Nat} {v : Value} (h : (cs.drop i).take 1 = [v]) : cs[i]? = some v := by
  have := congrArg (·[0]?) h
  simpa using this
theorem slice_slice {cs : List Value} (r j : Nat) (hj : j < 4) : ((((cs.drop (r * 4)).take 4).drop (j * 1)).take 1) = (cs.drop (r * 4 + j)).take 1 := by
  rw [List.drop_take, List.take_take, List.drop_drop, Nat.mul_one]
  congr 1
  omega
theorem mx_of_trod {W : World} {g0 : Nat} {t0 : TypeId} {cs0 : Array Value} {f0 : Nat} {p0 : List MemPlace} (hg0 : Tryz.prog.globalNamed "cellular/symmetry.matrices" = some g0) (ht0 : (Tryz.prog.globals[g0]?).map (·.type) = some t0) (hv0 : W.var? Tryz.prog "cellular/symmetry.matrices" = some cs0)
    (hd0 : DataW.trod (fun _ => ()) Tryz.prog W 0 (fun _ => true) false f0 t0 cs0.toList = some (Rows.laid_cellular_symmetry_matrices, p0)) : Mx W := by
  obtain rfl := Option.some.inj (gMat.symm.trans hg0)
  obtain rfl := Option.some.inj (tMat.symm.trans ht0)
  have c1 : Tryz.prog.cellsOf 3 = 1 := by kernel_rfl
  have c4 : Tryz.prog.cellsOf 223 = 4 := by kernel_rfl
  obtain ⟨xs, m, _, hx, _, hn, hel⟩ := DataW.trod_array Tryz.underlying224 hd0
  simp only [Prod.mk.injEq] at hx
  have key : ∀ r j, r < 8 → j < 4 → cs0.toList[r * 4 + j]? = some (.int .i64 (mat r j)) := by
    intro r j hr hj
    have hrow := hel r hr
    have hxr := laid_mat r hr _ hx.1
    rw [List.getElem?_map] at hxr
    cases hy : xs[r]? with
    | none => rw [hy] at hxr; cases hxr
    | some y =>
      rw [hy] at hrow hxr
      simp only [Option.map_some, Option.some.injEq] at hxr
      rw [c4] at hrow
      obtain ⟨ys, m1, _, hy1, _, hn1, hel1⟩ := DataW.trod_array Tryz.underlying223 hrow
      have e0 : y.1 = .agg (ys.map (·.1)) := by rw [hy1]
      rw [hxr] at e0
      have hyj := matD_at hj e0
      rw [List.getElem?_map] at hyj
      have hcell := hel1 j hj
      cases hz : ys[j]? with
      | none => rw [hz] at hyj; cases hyj
      | some z =>
        rw [hz] at hcell hyj
        simp only [Option.map_some, Option.some.injEq] at hyj
        rw [c1, slice_slice r j hj] at hcell
        obtain ⟨n, e1, e2, _⟩ := DataW.trod_int Tryz.underlying3 hcell
        have e3 : z.1 = .lit (.int .i64 n) := by rw [e2]
        rw [hyj] at e3
        injection e3 with e3
        injection e3 with _ e3
        rw [e3]
        exact get_of_slice e1
  have hcell : ∀ r j, r < 8 → j < 4 → W.cell? ⟨0, r * 4 + j, none⟩ = some (.int .i64 (mat r j)) := by
    intro r j hr hj
    rw [World.var?_cell hg0 hv0 (r * 4 + j)]
    have := key r j hr hj
    rwa [Array.getElem?_toList] at this
  refine ⟨?_, hcell⟩
  have h0 := hcell 0 0 (by omega) (by omega)
  rcases Nat.lt_or_ge 0 W.heap.size with h | h
  · exact h
  · exfalso
    have hn : W.heap[0]? = none := Array.getElem?_eq_none h
    simp [World.cell?, hn] at h0
theorem mx_of_laidL {W : World} (h : laidMetH Tryz.prog laidL W) : Mx W := by
  rw [MakeChecks.laidMetH_plain _ _ _ (by kernel_rfl)] at h
  obtain ⟨ps, ⟨_, _, _, _, _, _, _, _, _, _, ⟨_, _, _, _, _, _, _, _, _, _, ⟨_, _, _, _, _, _, _, _, _, _, ⟨_, _, _, _, _, _, _, _, _, _, ⟨g0, t0, cs0, f0, p0, q0, hg0, ht0, hv0, hd0, _, _⟩, _⟩, _⟩, _⟩, _⟩, _⟩ := h
  exact mx_of_trod hg0 ht0 hv0 hd0
end Go.Proofs.YtellglbmbocgkaaGreatDoor
