/- The comparisons of cells in algebra and island, for slices.SortFunc. -/
import Derived.Test.YtnhapgbjaeaamaaDoorSortC
namespace Go.Proofs.YtnhapgbjaeaamaaDoor
open Go Go.RowKit Go.Shelf Go.Sort
set_option linter.unusedSimpArgs false
set_option linter.unusedVariables false
set_option maxRecDepth 100000
theorem below_grow {B : Nat} {w W : World} (h : Below B w W) (hB : B ≤ W.heap.size) (os : Array Obj) : Below B w (grow W os) :=
  ⟨h.os, h.tape, h.output, by have := h.size; simp [grow]; omega, fun i hi => by
    rw [← h.block i hi]; simp only [grow]; exact Array.getElem?_append_left (by omega)⟩
end Go.Proofs.YtnhapgbjaeaamaaDoor
