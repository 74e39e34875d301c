/- Boxes of a function's own; chains of worlds; slices behind a name. -/
import Derived.Test.YtnhapgbjaeaamaaDoorProg
import Derived.Test.YtnhapgbjaeaamaaDoorMEM
namespace Go.Proofs.YtnhapgbjaeaamaaDoor
open Go Go.RowKit
set_option linter.unusedSimpArgs false
set_option linter.unusedVariables false
set_option maxRecDepth 100000
theorem rd_litP (w : World) (l : List (Int × Int)) (cs : Array Value) (n : Nat) (hn : l.length = n) (hm : n ≤ 4611686018427387904) (hcs : cs.toList = l.flatMap encP) : Rd encP 2 (w.alloc (.cells cs 56)) (some ⟨w.heap.size, 0, none⟩) n l := by
  have h := (Own.lit encP_len w 56 w.heap.size (Nat.le_refl _) l n hn hm cs.toList hcs).rd encP_len
  simpa using h
theorem below_thru {w w1 w2 : World} (h : Below w.heap.size w w1) (h2 : Below w1.heap.size w1 w2) : Below w.heap.size w w2 :=
  below_after h2 h h.size
theorem below_thruA {w w1 w2 : World} {o : Obj} (h : Below w.heap.size w w1) (h2 : Below (w1.alloc o).heap.size (w1.alloc o) w2) : Below w.heap.size w w2 :=
  below_after h2 (h.alloc h.size o) (by have := h.size; rw [World.size_alloc]; omega)
theorem below_thruA2 {w1 w2 : World} {o o' : Obj} (h2 : Below ((w1.alloc o).alloc o').heap.size ((w1.alloc o).alloc o') w2) : Below w1.heap.size w1 w2 :=
  below_after h2 (((Below.refl _ _).alloc (Nat.le_refl _) o).alloc (by simp) o') (by simp; omega)
theorem bl_drew {w w1 : World} (h : Below w.heap.size w w1) : Below w.heap.size w w1.drew := h.drew
theorem bl_alloc {w w1 : World} (h : Below w.heap.size w w1) (o : Obj) : Below w.heap.size w (w1.alloc o) := h.alloc h.size o
/-- A box of a function's own: four numbers in a block. -/
def BoxAt (w : World) (b : Nat) (x y z u : Int) : Prop := b < w.heap.size ∧ w.cell? ⟨b, 0, none⟩ = some (.int .i64 x) ∧ w.cell? ⟨b, 1, none⟩ = some (.int .i64 y) ∧ w.cell? ⟨b, 2, none⟩ = some (.int .i64 z) ∧ w.cell? ⟨b, 3, none⟩ = some (.int .i64 u)
theorem BoxAt.of {w w' : World} {b : Nat} {x y z u : Int} (h : BoxAt w b x y z u) (hb : Below w.heap.size w w') : BoxAt w' b x y z u := by
  obtain ⟨h0, h1, h2, h3, h4⟩ := h
  exact ⟨by have := hb.size; omega, (hb.cell (p := ⟨_, _, none⟩) h0).trans h1, (hb.cell (p := ⟨_, _, none⟩) h0).trans h2, (hb.cell (p := ⟨_, _, none⟩) h0).trans h3, (hb.cell (p := ⟨_, _, none⟩) h0).trans h4⟩
theorem BoxAt.alloc {w : World} {b : Nat} {x y z u : Int} (h : BoxAt w b x y z u) (o : Obj) : BoxAt (w.alloc o) b x y z u := h.of ((Below.refl _ _).alloc (Nat.le_refl _) o)
theorem BoxAt.new (w : World) (x y z u : Int) (t : TypeId) : BoxAt (w.alloc (.cells #[.int .i64 x, .int .i64 y, .int .i64 z, .int .i64 u] t)) w.heap.size x y z u := by
  refine ⟨by simp, ?_, ?_, ?_, ?_⟩ <;> simp [cell_alloc_if]
/-- Rd behind a name that nothing opens. -/
structure HRd {α : Type} (enc : α → List Value) (k : Nat) (w : World) (A : Option Addr) (n : Nat) (l : List α) : Prop where
  rd : Rd enc k w A n l
theorem HRd.drew {α : Type} {enc : α → List Value} {k : Nat} {w : World} {A : Option Addr} {n : Nat} {l : List α} (h : HRd enc k w A n l) : HRd enc k w.drew A n l := ⟨h.rd⟩
theorem HRd.of {α : Type} {enc : α → List Value} {k : Nat} {w w' : World} {A : Option Addr} {n : Nat} {l : List α} (h : HRd enc k w A n l) (hb : Below w.heap.size w w') : HRd enc k w' A n l := ⟨h.rd.of hb⟩
theorem HRd.alloc {α : Type} {enc : α → List Value} {k : Nat} {w : World} {A : Option Addr} {n : Nat} {l : List α} (h : HRd enc k w A n l) (o : Obj) : HRd enc k (w.alloc o) A n l := h.of ((Below.refl _ _).alloc (Nat.le_refl _) o)
/-- A position of a function's own. -/
def PtAt (w : World) (b : Nat) (x y : Int) : Prop := b < w.heap.size ∧ w.cell? ⟨b, 0, none⟩ = some (.int .i64 x) ∧ w.cell? ⟨b, 1, none⟩ = some (.int .i64 y)
theorem PtAt.of {w w' : World} {b : Nat} {x y : Int} (h : PtAt w b x y) (hb : Below w.heap.size w w') : PtAt w' b x y := by
  obtain ⟨h0, h1, h2⟩ := h
  exact ⟨by have := hb.size; omega, (hb.cell (p := ⟨_, _, none⟩) h0).trans h1, (hb.cell (p := ⟨_, _, none⟩) h0).trans h2⟩
theorem PtAt.alloc {w : World} {b : Nat} {x y : Int} (h : PtAt w b x y) (o : Obj) : PtAt (w.alloc o) b x y := h.of ((Below.refl _ _).alloc (Nat.le_refl _) o)
theorem PtAt.new (w : World) (x y : Int) (t : TypeId) : PtAt (w.alloc (.cells #[.int .i64 x, .int .i64 y] t)) w.heap.size x y := by
  refine ⟨by simp, ?_, ?_⟩ <;> simp [cell_alloc_if]
end Go.Proofs.YtnhapgbjaeaamaaDoor
