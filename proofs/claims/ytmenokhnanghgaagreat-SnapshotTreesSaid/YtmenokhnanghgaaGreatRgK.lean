/- What the reference's readers of trees, contents and timelines keep. By mkrgk.py. -/
import Derived.Test.YtmenokhnanghgaaGreatRgB
import Derived.Test.YtmenokhnanghgaaGreatSnpV
namespace Go.Proofs.YtmenokhnanghgaaGreat
open Go Go.RowKit
set_option linter.unusedSimpArgs false
set_option linter.unusedVariables false
set_option maxRecDepth 100000
set_option linter.unusedSimpArgs false
set_option linter.unusedVariables false
structure TaS (W : World) (tb br bi : Nat) (zs vs : List Value) (A : Option Addr) (n c : Nat) (bs : List Bool) (s : RS) (w : World) : Prop where
  r : BxW w W.heap.size zs
  x : BxW w tb vs
  s : RrS w br bi A n c bs s
  b : Below W.heap.size W w
structure TaK (H tb br bi : Nat) (A : Option Addr) (n : Nat) : Prop where
  r1 : H < br
  r2 : H < bi
  t : RrB tb br bi A n
section
variable {W w w' : World} {tb br bi : Nat} {zs vs : List Value} {A : Option Addr} {n c : Nat} {bs : List Bool} {s s' : RS}
theorem TaS.of (h : TaS W tb br bi zs vs A n c bs s w) (hb : Below w.heap.size w w') : TaS W tb br bi zs vs A n c bs s w' := ⟨h.r.of hb, h.x.of hb, h.s.of hb, h.b.trans (hb.mono h.b.size)⟩
theorem TaS.read (h : TaS W tb br bi zs vs A n c bs s w) (K : TaK W.heap.size tb br bi A n) (hs : RrS w' br bi A n c bs s') (hf : Fr2 (RB br bi) w w') : TaS W tb br bi zs vs A n c bs s' w' := by
  have k1 := K.r1
  have k2 := K.r2
  have k3 := K.t.br
  have k4 := K.t.bi
  exact ⟨h.r.frR hf (by rintro (k | k) <;> omega), h.x.frR hf (by rintro (k | k) <;> omega), hs, h.b.trans (hf.below (B := W.heap.size) h.b.size (fun q hq => by rcases hq with rfl | rfl <;> omega))⟩
theorem TaS.gr {row : Option Nat} (h : TaS W tb br bi zs vs A n c bs s w) (K : TaK W.heap.size tb br bi A n) (hg : w.grownBy w' row) (hr : ∀ q, row = some q → tb < q) : TaS W tb br bi zs vs A n c bs s w' := by
  have k1 := K.r1
  have k3 := K.t.br
  refine ⟨h.r.grown hg (fun e => by have := hr _ e.symm; omega), h.x.grown hg (fun e => by have := hr _ e.symm; omega), h.s.gr K.t hg (fun q e => by have := hr q e; omega), h.b.grown hg h.b.size (fun q e => by have := hr q e; omega)⟩
theorem TaS.put (h : TaS W tb br bi zs vs A n c bs s w) (K : TaK W.heap.size tb br bi A n) (i : Nat) (v : Value) (hi : i < vs.length) : TaS W tb br bi zs (vs.set i v) A n c bs s (w.setCell ⟨tb, i, none⟩ v) := by
  have k1 := K.r1
  have k3 := K.t.br
  refine ⟨h.r.off i v (by omega), h.x.put i v hi, h.s.gr K.t (grownBy_set w tb i v) (fun q e => by injection e with e; omega), h.b.setCell (by show W.heap.size ≤ tb; omega) _⟩
theorem TaS.own {γ : Type} {enc : γ → List Value} {k : Nat} {e : TypeId} {on oc : Nat} {OA : Option Addr} {l : List γ} (K : TaK W.heap.size tb br bi A n) (h : Own enc k e (tb + 1) w OA on oc l) (hf : Fr2 (RB br bi) w w') : Own enc k e (tb + 1) w' OA on oc l := by
  have k3 := K.t.br
  have k4 := K.t.bi
  exact h.fr2 hf (fun q hq => by have := (h.row.lt q hq).1; rintro (k | k) <;> omega)
theorem TaS.ownO {α β : Type} {E : EK α β} {e : TypeId} {on oc : Nat} {OA : Option Addr} {l : List β} (K : TaK W.heap.size tb br bi A n) (hT : TaS W tb br bi zs vs A n c bs s w) (h : OwnO E e (tb + 1) (fun _ => False) w OA on oc l) (hf : Fr2 (RB br bi) w w') : OwnO E e (tb + 1) (fun _ => False) w' OA on oc l := by
  have k3 := K.t.br
  have k4 := K.t.bi
  have k5 := hT.x.1
  exact h.read hf (by omega) (by omega) (by omega)
structure TgS (wr : World) (xb : Nat) (vals : List Value) (br bi : Nat) (A : Option Addr) (n c : Nat) (bs : List Bool) (s : RS) (w : World) : Prop where
  x : BxW w xb vals
  f : Fr2 (RB br bi) wr w
  s : RrS w br bi A n c bs s
theorem TgS.read {wr : World} {xb : Nat} {vals : List Value} (h : TgS wr xb vals br bi A n c bs s w) (K : TaK W.heap.size tb br bi A n) (hx : tb < xb) (hs : RrS w' br bi A n c bs s') (hf : Fr2 (RB br bi) w w') : TgS wr xb vals br bi A n c bs s' w' := by
  have k3 := K.t.br
  have k4 := K.t.bi
  exact ⟨h.x.frR hf (by rintro (k | k) <;> omega), h.f.then hf (fun _ _ e => e), hs⟩
theorem TgS.put {wr : World} {xb : Nat} {vals : List Value} (h : TgS wr xb vals br bi A n c bs s w) (K : TaK W.heap.size tb br bi A n) (hx : tb < xb) (hw : wr.heap.size ≤ xb) (i : Nat) (v : Value) (hi : i < vals.length) : TgS wr xb (vals.set i v) br bi A n c bs s (w.setCell ⟨xb, i, none⟩ v) :=
  ⟨h.x.put i v hi, h.f.put i v (.inr hw), h.s.gr K.t (grownBy_set w xb i v) (fun q e => by injection e with e; omega)⟩
structure TnR (wr : World) (xb : Nat) (lv : Int) (br bi : Nat) (A : Option Addr) (n c : Nat) (bs : List Bool) (s1 : RS) (j : Nat) (E2 : Option Addr) (r : Nat) (w : World) : Prop where
  x : BxW w xb [.int .i64 lv, .slice E2 j r]
  e : Own encI 1 3 (xb + 1) w E2 j r (gmsR bs s1 j).1
  f : Fr2 (RB br bi) wr w
  s : RrS w br bi A n c bs (gmsR bs s1 j).2
end
end Go.Proofs.YtmenokhnanghgaaGreat
