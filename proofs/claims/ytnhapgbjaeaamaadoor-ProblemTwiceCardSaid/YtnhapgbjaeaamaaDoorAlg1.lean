/- The contracts of algebra.Over, Xor, And, Without and Disjoint. -/
import Derived.Test.YtnhapgbjaeaamaaDoorMrg2
namespace Go.Proofs.YtnhapgbjaeaamaaDoor
open Go Go.RowKit
set_option linter.unusedSimpArgs false
set_option linter.unusedVariables false
set_option maxRecDepth 100000
attribute [local go_sem ↓ high] eq_cl neq_cl eq_pt neq_pt
theorem coll_new {B n c : Nat} {w : World} {A : Option Addr} {l : List (Int × Int × Int)} (h : Own encC 3 40 B w A n c l) (hB : B ≤ w.heap.size) : Coll B w.heap.size (w.alloc (.cells #[.slice A n c] 30)) l :=
  ⟨hB, A, n, c, heap_alloc_new w _, h.alloc _⟩
theorem both_ways (a b : List (Int × Int × Int)) : (rightC a = false) ∨ (rightC a = true ∧ rightC b = false) ∨ (rightC a = true ∧ rightC b = true) := by
  cases rightC a <;> cases rightC b <;> simp
end Go.Proofs.YtnhapgbjaeaamaaDoor
