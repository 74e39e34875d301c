/- timeline.made for a recorded run. Worlds that differ in one box; parts of rows; three boxes. -/
import Derived.Test.YtmenokhnanghgaaGreatDLS
import Derived.Test.YtmenokhnanghgaaGreatMAP
import Derived.Test.YtmenokhnanghgaaGreatSNM
import Derived.Test.YtmenokhnanghgaaGreatSRT
set_option linter.unusedSimpArgs false
set_option linter.unusedVariables false
section
namespace Go.Proofs.YtmenokhnanghgaaGreat
open Go Go.RowKit
set_option maxRecDepth 100000
theorem FrW.one {W w' : World} {b1 i1 : Nat} {v1 : Value} (h : FrW W w') (hb1 : b1 < W.heap.size) (c1 : W.cell? ⟨b1, i1, none⟩ = some v1) :
    FrW W w' ∧ w'.cell? ⟨b1, i1, none⟩ = some v1 := ⟨h, (h.below.cell (p := ⟨_, _, none⟩) hb1).trans c1⟩
end Go.Proofs.YtmenokhnanghgaaGreat
end
section
namespace Go.Proofs.YtmenokhnanghgaaGreat
open Go Go.RowKit
structure FrG (W : World) (b : Nat) (w' : World) : Prop where
  g : W.grownBy w' (some b)
section
variable {W w w' : World} {b : Nat}
theorem FrG.here (W : World) (b : Nat) : FrG W b W := ⟨World.grownBy.refl W _⟩
theorem FrG.drew (h : FrG W b w) : FrG W b w.drew := ⟨⟨h.g.os, h.g.tape, h.g.output, h.g.size, h.g.block⟩⟩
theorem FrG.alloc (h : FrG W b w) (o : Obj) : FrG W b (w.alloc o) := ⟨h.g.andThen (World.grownBy_alloc w o none) (fun q hq => by cases hq)⟩
theorem FrG.of (h : FrG W b w) (hb : Below w.heap.size w w') : FrG W b w' := ⟨⟨hb.os.trans h.g.os, hb.tape.trans h.g.tape, hb.output.trans h.g.output, Nat.le_trans h.g.size hb.size, fun i hi hr => (hb.block i (Nat.lt_of_lt_of_le hi h.g.size)).trans (h.g.block i hi hr)⟩⟩
theorem FrG.set (h : FrG W b w) (i : Nat) (v : Value) : FrG W b (w.setCell ⟨b, i, none⟩ v) := ⟨h.g.andThen (grownBy_set w b i v) (fun q hq => .inr hq)⟩
theorem FrG.cell (h : FrG W b w') {b1 i : Nat} {v : Value} (hb : b1 < W.heap.size) (hne : b1 ≠ b) (c : W.cell? ⟨b1, i, none⟩ = some v) : w'.cell? ⟨b1, i, none⟩ = some v :=
  (World.cell?_of_block (h.g.block b1 hb (fun e => hne (by injection e)))).trans c
theorem FrG.one (h : FrG W b w') {b1 i : Nat} {v : Value} (hb : b1 < W.heap.size) (hne : b1 ≠ b) (c : W.cell? ⟨b1, i, none⟩ = some v) : FrG W b w' ∧ w'.cell? ⟨b1, i, none⟩ = some v := ⟨h, h.cell hb hne c⟩
theorem FrG.two (h : FrG W b w') {b1 b2 i i2 : Nat} {v v2 : Value} (hb : b1 < W.heap.size) (hne : b1 ≠ b) (c : W.cell? ⟨b1, i, none⟩ = some v) (hb2 : b2 < W.heap.size) (hne2 : b2 ≠ b) (c2 : W.cell? ⟨b2, i2, none⟩ = some v2) : FrG W b w' ∧ w'.cell? ⟨b1, i, none⟩ = some v ∧ w'.cell? ⟨b2, i2, none⟩ = some v2 := ⟨h, h.cell hb hne c, h.cell hb2 hne2 c2⟩
end
section
variable {α β : Type} {K : EK α β} {w : World} {n : Nat} {bs : List β}
end
theorem BxW.open1 {w : World} {b : Nat} {x : Value} (h : BxW w b [x]) : b < w.heap.size ∧ w.cell? ⟨b, 0, none⟩ = some x ∧ w.frozen? ⟨b, 0, none⟩ = false := ⟨h.1, h.2.1 0, h.2.2 0⟩
end Go.Proofs.YtmenokhnanghgaaGreat
end
