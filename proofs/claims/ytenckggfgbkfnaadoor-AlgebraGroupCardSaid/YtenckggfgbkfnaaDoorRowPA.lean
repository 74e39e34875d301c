/- Arguments that are arrays of two numbers, opened. -/
import Derived.Test.YtenckggfgbkfnaaDoorRowPC
namespace Go.Proofs.YtenckggfgbkfnaaDoor
open Go Go.ChangeShapes Go.WideShapes Go.ChangeAt Go.RowKit Go.Joins Go.Deep
set_option linter.unusedSimpArgs false
set_option linter.unusedVariables false
set_option maxRecDepth 100000
section
variable {H : Type} {enc : TypeId × Value → H} {W : World} {base b0 : Nat} {sp : Nat → Bool} {held : Bool} {v : Value} {d : DataW H} {p : List MemPlace}
theorem open_pair {t e : TypeId} {q : IntKind} (ht : Tryd.prog.underlying t = some (.array 2 e)) (he : Tryd.prog.underlying e = some (.int q)) (hc1 : Tryd.prog.cellsOf e = 1) (hc : Tryd.prog.cellsOf t = 2)
    (hv : Value.okWide Tryd.prog W .any b0 t v) (h : DataW.Trod enc Tryd.prog W base sp held t v d p) : ∃ x y : Int, v = .agg #[.int q x, .int q y] ∧ (Lit.int q x).wf = true ∧ (Lit.int q y).wf = true := by
  simp only [Value.okWide, ht] at hv
  obtain ⟨cs, rfl, hsz, _⟩ := hv
  rw [hc] at hsz
  obtain ⟨fuel, hf⟩ := h
  have hcs : (Value.agg cs).cells.toList = cs.toList := rfl
  obtain ⟨xs, m, _, _, _, hn, hel⟩ := DataW.trod_array ht hf
  have l0 := hel 0 (by omega)
  have l1 := hel 1 (by omega)
  rw [List.getElem?_eq_getElem (by omega)] at l0 l1
  rw [hc1] at l0 l1
  obtain ⟨x, e0, _, w0⟩ := DataW.trod_int he l0
  obtain ⟨y, e1, _, w1⟩ := DataW.trod_int he l1
  obtain ⟨cl⟩ := cs
  simp only [Value.cells] at e0 e1
  simp only [List.size_toArray] at hsz
  match cl, hsz with
  | [a, b], _ =>
    simp at e0 e1
    subst e0 e1
    exact ⟨x, y, rfl, w0, w1⟩
theorem open_a2 (hv : Value.okWide Tryd.prog W .any b0 46 v) (h : DataW.Trod enc Tryd.prog W base sp held 46 v d p) : ∃ x y : Int, v = .agg #[.int .i64 x, .int .i64 y] ∧ I64 x ∧ I64 y := by
  obtain ⟨x, y, rfl, w0, w1⟩ := open_pair Tryd.underlying46 Tryd.underlying3 (by kernel_rfl) (by kernel_rfl) hv h
  exact ⟨x, y, rfl, i64_of_wf w0, i64_of_wf w1⟩
theorem open_b2 (hv : Value.okWide Tryd.prog W .any b0 48 v) (h : DataW.Trod enc Tryd.prog W base sp held 48 v d p) : ∃ x y : Int, v = .agg #[.int .i8 x, .int .i8 y] ∧ (-128 ≤ x ∧ x ≤ 127) ∧ (-128 ≤ y ∧ y ≤ 127) := by
  obtain ⟨x, y, rfl, w0, w1⟩ := open_pair Tryd.underlying48 Tryd.underlying47 (by kernel_rfl) (by kernel_rfl) hv h
  exact ⟨x, y, rfl, bounds_i8 w0, bounds_i8 w1⟩
end
end Go.Proofs.YtenckggfgbkfnaaDoor
