/- Boxes that may be written. Over any program. -/
import Derived.Test.YtellglbmbocgkaaGreatDoorMEM
namespace Go.Proofs.YtellglbmbocgkaaGreatDoor
open Go Go.RowKit
set_option linter.unusedSimpArgs false
set_option linter.unusedVariables false
theorem grownBy_set (W : World) (b i : Nat) (v : Value) : W.grownBy (W.setCell ⟨b, i, none⟩ v) (some b) := by
  exact ⟨rfl, rfl, rfl, by simp, fun k _ hk => Below.heap_setCell _ _ _ k (fun e => hk (by rw [e]))⟩
theorem frozen_setCell_if (w : World) (b i b' i' : Nat) (v : Value) : (w.setCell ⟨b, i, none⟩ v).frozen? ⟨b', i', none⟩ = w.frozen? ⟨b', i', none⟩ := by
  simp [go_sem]
/-- Block b holds these cells and may be written. -/
def BxW (w : World) (b : Nat) (vs : List Value) : Prop := b < w.heap.size ∧ (∀ i, w.cell? ⟨b, i, none⟩ = vs[i]?) ∧ ∀ i, w.frozen? ⟨b, i, none⟩ = false
section
variable {w w' : World} {b b2 : Nat} {vs : List Value} {x y z u v v0 v1 v2 v3 : Value}
theorem BxW.new (w : World) (cs : List Value) (t : TypeId) : BxW (w.alloc (.cells cs.toArray t)) w.heap.size cs :=
  ⟨by simp, fun i => by rw [cell_alloc_if, if_neg (by omega), if_pos rfl]; simp, fun i => by rw [frozen_alloc_if, if_neg (by omega)]⟩
theorem BxW.drew (h : BxW w b vs) : BxW w.drew b vs := h
theorem BxW.of (h : BxW w b vs) (hb : Below w.heap.size w w') : BxW w' b vs :=
  ⟨Nat.lt_of_lt_of_le h.1 hb.size, fun i => (hb.cell (p := ⟨b, i, none⟩) h.1).trans (h.2.1 i), fun i => (hb.frozen (p := ⟨b, i, none⟩) h.1).trans (h.2.2 i)⟩
theorem BxW.grown {row : Option Nat} (h : BxW w b vs) (hg : w.grownBy w' row) (hne : some b ≠ row) : BxW w' b vs := by
  have hbl := hg.block b h.1 hne
  exact ⟨Nat.lt_of_lt_of_le h.1 hg.size, fun i => (World.cell?_of_block hbl).trans (h.2.1 i), fun i => (World.frozen?_of_block hbl).trans (h.2.2 i)⟩
theorem BxW.off (h : BxW w b vs) (i : Nat) (v : Value) (hb : b2 ≠ b) : BxW (w.setCell ⟨b2, i, none⟩ v) b vs := h.grown (grownBy_set w b2 i v) (fun e => hb (by injection e with e; exact e.symm))
theorem BxW.put (h : BxW w b vs) (i : Nat) (v : Value) (hi : i < vs.length) : BxW (w.setCell ⟨b, i, none⟩ v) b (vs.set i v) := by
  refine ⟨by rw [World.size_setCell]; exact h.1, fun j => ?_, fun j => by rw [frozen_setCell_if]; exact h.2.2 j⟩
  rw [cell_setCell_if, List.getElem?_set]
  by_cases e : i = j
  · subst e
    rw [if_pos ⟨rfl, rfl⟩, if_pos rfl, h.2.1, List.getElem?_eq_getElem hi, if_pos hi]; rfl
  · rw [if_neg (fun k => e k.2), if_neg e]; exact h.2.1 j
theorem BxW.open2 (h : BxW w b [x, y]) : b < w.heap.size ∧ w.cell? ⟨b, 0, none⟩ = some x ∧ w.cell? ⟨b, 1, none⟩ = some y ∧ w.frozen? ⟨b, 0, none⟩ = false ∧ w.frozen? ⟨b, 1, none⟩ = false :=
  ⟨h.1, h.2.1 0, h.2.1 1, h.2.2 0, h.2.2 1⟩
theorem BxW.open4 (h : BxW w b [v0, v1, v2, v3]) : b < w.heap.size ∧ w.cell? ⟨b, 0, none⟩ = some v0 ∧ w.cell? ⟨b, 1, none⟩ = some v1 ∧ w.cell? ⟨b, 2, none⟩ = some v2 ∧ w.cell? ⟨b, 3, none⟩ = some v3 ∧ w.frozen? ⟨b, 0, none⟩ = false ∧ w.frozen? ⟨b, 1, none⟩ = false ∧ w.frozen? ⟨b, 2, none⟩ = false ∧ w.frozen? ⟨b, 3, none⟩ = false :=
  ⟨h.1, h.2.1 0, h.2.1 1, h.2.1 2, h.2.1 3, h.2.2 0, h.2.2 1, h.2.2 2, h.2.2 3⟩
theorem BxW.cap (h : BxW w b vs) (k : w.frozen? ⟨b, 0, none⟩ = true) : False := by rw [h.2.2] at k; cases k
end
end Go.Proofs.YtellglbmbocgkaaGreatDoor
