/- The visitors of algebra.merge: closures that collect cells in a captured slice. -/
import Derived.Test.YtnhapgbjaeaamaaDoorCell8
import Derived.Test.YtnhapgbjaeaamaaDoorPLN
import Derived.OneCell
namespace Go.Proofs.YtnhapgbjaeaamaaDoor
open Go Go.RowKit
set_option linter.unusedSimpArgs false
set_option linter.unusedVariables false
set_option maxRecDepth 100000
attribute [local go_sem ↓ high] eq_cl neq_cl eq_pt neq_pt
theorem own_box_ne {α : Type} {enc : α → List Value} {k : Nat} {e t : TypeId} {B b n c : Nat} {w : World} {A : Option Addr} {l : List α} {v : Value} (h : Own enc k e B w A n c l) (hb : w.heap[b]? = some (.cells #[v] t (0, 0))) (ht : t ≠ e) : (Value.slice A n c).ownBlock ≠ some b := by
  rcases h.row.2 with ⟨h0, _⟩ | ⟨g, cap, cur, hv, hg, hh, r⟩
  · rw [h0]; simp [Value.ownBlock]
  · rw [hv]
    intro e0
    have e1 : g = b := by simpa [Value.ownBlock] using e0
    subst e1
    rw [hh] at hb
    injection hb with hb
    injection hb with _ hb _
    exact ht hb.symm
theorem Own.setOther {α : Type} {enc : α → List Value} {k : Nat} {e : TypeId} {B n c : Nat} {w : World} {A : Option Addr} {l : List α} (h : Own enc k e B w A n c l) {a : Addr} (ha : (Value.slice A n c).ownBlock ≠ some a.block) (u : Value) : Own enc k e B (w.setCell a u) A n c l :=
  ⟨ownsRow_setCell_other h.row ha u, h.len⟩
/-- A variable of the call's own, in block b, holds a slice of the call's own that reads as l. -/
def Coll (B b : Nat) (w : World) (l : List (Int × Int × Int)) : Prop := B ≤ b ∧ ∃ A n c, w.heap[b]? = some (.cells #[.slice A n c] 30 (0, 0)) ∧ Own encC 3 40 B w A n c l
theorem Coll.of {B b : Nat} {w w' : World} {l : List (Int × Int × Int)} (h : Coll B b w l) (hb : Below w.heap.size w w') : Coll B b w' l := by
  obtain ⟨h0, A, n, c, h1, h2⟩ := h
  exact ⟨h0, A, n, c, (hb.block b (lt_of_block h1)).trans h1, h2.of hb⟩
theorem Coll.lt {B b : Nat} {w : World} {l : List (Int × Int × Int)} (h : Coll B b w l) : b < w.heap.size := by
  obtain ⟨h0, A, n, c, h1, h2⟩ := h
  exact lt_of_block h1
theorem coll_store {B b : Nat} {w w1 w2 : World} {l : List (Int × Int × Int)} {A A' : Option Addr} {n c c' : Nat} {y : Int × Int × Int} (hB : B ≤ b) (h1 : w.heap[b]? = some (.cells #[.slice A n c] 30 (0, 0))) (h2 : Own encC 3 40 B w A n c l)
    (h3 : Below w.heap.size w w1) (h4 : Own encC 3 40 B w2 A' (n + 1) c' (l ++ [y])) (h5 : w1.grownBy w2 (Value.slice A n c).ownBlock) :
    w2.heap[b]? = some (.cells #[.slice A n c] 30 (0, 0)) ∧ Coll B b (w2.setCell ⟨b, 0, none⟩ (.slice A' (n + 1) c')) (l ++ [y]) := by
  have hb := lt_of_block h1
  have k1 : w1.heap[b]? = some (.cells #[.slice A n c] 30 (0, 0)) := (h3.block b hb).trans h1
  have hne := own_box_ne h2 h1 (by decide)
  have k2 : w2.heap[b]? = some (.cells #[.slice A n c] 30 (0, 0)) := (h5.block b (lt_of_block k1) (fun e => hne e.symm)).trans k1
  exact ⟨k2, hB, A', n + 1, c', one_setCell k2, h4.setOther (own_box_ne h4 k2 (by decide)) _⟩
end Go.Proofs.YtnhapgbjaeaamaaDoor
