/- General lemmas on worlds, drawn regions and slices, over any program. No condition. -/
import Derived.WalkKit
import Derived.BigQuiet
import Derived.Deep.Draws
import Derived.Lib.Hide
namespace Go.Proofs.Ytnhnkmppmicjoaa
open Go Go.RowKit
set_option linter.unusedSimpArgs false
set_option linter.unusedVariables false

theorem below_after {B C : Nat} {a w1 w2 : World} (h : Below C w1 w2) (k : Below B a w1) (hBC : B ≤ C) : Below B a w2 := k.trans (h.mono hBC)
theorem below_drewN {B : Nat} {a w : World} (h : Below B a w) (n : Nat) : Below B a (w.drewN n) := ⟨h.os, h.tape, h.output, h.size, h.block⟩

/-- A cell of a world, behind a name that the walk does not open. -/
def cellOf (w : World) (p : Addr) : Option Value := w.cell? p
def frozenOf (w : World) (p : Addr) : Bool := w.frozen? p
/-- All old cells and all old marks read as before. -/
theorem bcell {B : Nat} {W w1 : World} (hb : Below B W w1) : (∀ b o, w1.cell? ⟨b, o, none⟩ = if b < B then W.cell? ⟨b, o, none⟩ else cellOf w1 ⟨b, o, none⟩) ∧ (∀ b o, w1.frozen? ⟨b, o, none⟩ = if b < B then W.frozen? ⟨b, o, none⟩ else frozenOf w1 ⟨b, o, none⟩) :=
  ⟨fun b o => by split; exact hb.cell (p := ⟨b, o, none⟩) ‹_›; rfl, fun b o => by split; exact hb.frozen (p := ⟨b, o, none⟩) ‹_›; rfl⟩
@[go_sem high] theorem cell_alloc_if (w : World) (c : Array Value) (t : TypeId) (fr : Nat × Nat) (n i : Nat) : (w.alloc (.cells c t fr)).cell? ⟨n, i, none⟩ = if n < w.heap.size then w.cell? ⟨n, i, none⟩ else if n = w.heap.size then c[i]? else none := by
  by_cases h : n < w.heap.size
  · rw [if_pos h]; exact World.cell?_of_block (heap_alloc_old w _ h)
  · rw [if_neg h]
    by_cases e : n = w.heap.size
    · subst e; rw [if_pos rfl]; unfold World.cell?; rw [show (w.alloc (.cells c t fr)).heap[(⟨w.heap.size, i, none⟩ : Addr).block]? = some (.cells c t fr) from heap_alloc_new w _]; rfl
    · rw [if_neg e]
      have : (w.alloc (.cells c t fr)).heap[n]? = none := Array.getElem?_eq_none (by simp; omega)
      simp [World.cell?, this]
@[go_sem high] theorem frozen_alloc_if (w : World) (c : Array Value) (t : TypeId) (n i : Nat) : (w.alloc (.cells c t)).frozen? ⟨n, i, none⟩ = if n < w.heap.size then w.frozen? ⟨n, i, none⟩ else false := by
  by_cases h : n < w.heap.size
  · rw [if_pos h]; exact World.frozen?_of_block (heap_alloc_old w _ h)
  · rw [if_neg h]
    by_cases e : n = w.heap.size
    · subst e; unfold World.frozen?; rw [show (w.alloc (.cells c t)).heap[(⟨w.heap.size, i, none⟩ : Addr).block]? = some (.cells c t) from heap_alloc_new w _]; simp
    · have : (w.alloc (.cells c t)).heap[n]? = none := Array.getElem?_eq_none (by simp; omega)
      simp [World.frozen?, this]

@[go_sem high] theorem cell_setCell_if (w : World) (b i b' i' : Nat) (v : Value) : (w.setCell ⟨b, i, none⟩ v).cell? ⟨b', i', none⟩ = if b = b' ∧ i = i' then (w.cell? ⟨b, i, none⟩).map (fun _ => v) else w.cell? ⟨b', i', none⟩ := by
  split
  · rename_i h
    obtain ⟨rfl, rfl⟩ := h
    cases e : w.cell? ⟨b, i, none⟩ with
    | some u => rw [World.cell?_setCell_same w _ v e]; rfl
    | none =>
      have h2 : (w.setCell ⟨b, i, none⟩ v).cell? ⟨b, i, none⟩ = none := by
        unfold World.cell? at e ⊢
        simp only [World.setCell, Array.getElem?_modify]
        cases hb : w.heap[b]? with
        | none => simp
        | some o =>
          rw [hb] at e
          cases o <;> simp_all
      rw [h2]; rfl
  · rename_i h
    exact World.cell?_setCell_other w _ _ v (fun e => h (by injection e with e1 e2; exact ⟨e1, e2⟩))

theorem cellOf_row {w : World} {b : Nat} {cs : Array Value} {t : TypeId} {fr : Nat × Nat} (h : w.heap[b]? = some (.cells cs t fr)) : ∀ i, cellOf w ⟨b, i, none⟩ = cs[i]? := fun i => by
  unfold cellOf; exact cell_of_row w b i cs t fr h
theorem frozenOf_row {w : World} {b : Nat} {cs : Array Value} {t : TypeId} (h : w.heap[b]? = some (.cells cs t (0, 0))) : ∀ i, frozenOf w ⟨b, i, none⟩ = false := fun i => by
  unfold frozenOf; exact frozen_of_row w b i cs t h
/-- The worlds in which all that lay in w lies as it did. -/
def Ext (w : World) : Type := { z : World // Below w.heap.size w z }
instance (w : World) : Nonempty (Ext w) := ⟨⟨w, Below.refl _ _⟩⟩
def Ext.world {w : World} (z : Ext w) : World := z.1
theorem Ext.below {w : World} (z : Ext w) : Below w.heap.size w z.world := z.2
@[go_sem] theorem Ext.cell {w : World} (z : Ext w) (b o : Nat) : z.world.cell? ⟨b, o, none⟩ = if b < w.heap.size then w.cell? ⟨b, o, none⟩ else cellOf z.world ⟨b, o, none⟩ := (bcell z.below).1 b o
theorem Ext.frozen {w : World} (z : Ext w) (b o : Nat) : z.world.frozen? ⟨b, o, none⟩ = if b < w.heap.size then w.frozen? ⟨b, o, none⟩ else frozenOf z.world ⟨b, o, none⟩ := (bcell z.below).2 b o
theorem Ext.size {w : World} (z : Ext w) : w.heap.size ≤ z.world.heap.size := z.below.size

/-- A region that draws its order, whose operations and callees leave all that lay there as it was. -/
theorem wp_region_ext_lit {P : Program} {id : Nat} {Q : Exit → Act → World → Prop} {a : Act} {w : World} {l : List Oper} (hm : P.follows .mixedOrders = true) (hB : Region.lexB .any l.toArray = true)
    (h : wpQuiet P l.toArray (fun w' => ∃ z : Ext w, w' = z.world) (fun a' => ∀ w', (∃ z : Ext w, w' = z.world) → Q .normal a' w') l a) : (Code.region id l.toArray true).wp P Q a w :=
  wp_region_quiet (C := fun w' => ∃ z : Ext w, w' = z.world) hm hB ⟨⟨w.drew, (Below.refl _ _).drew⟩, rfl⟩ (by simpa using h)

theorem calls_ext {P : Program} {f : FuncId} {args : Array Value} {w : World} {v : Value} {z : Ext w}
    (h : Calls P f args z.world fun e w' => e = .returned v ∧ Below z.world.heap.size z.world w') : Calls P f args z.world fun e w'' => e = .returned v ∧ ∃ z' : Ext w, w'' = z'.world :=
  h.mono fun _ w' ⟨he, hb⟩ => ⟨he, ⟨⟨w', below_after hb z.below z.below.size⟩, rfl⟩⟩
theorem calls_ext_same {P : Program} {f : FuncId} {args : Array Value} {w : World} {v : Value} {z : Ext w}
    (h : Calls P f args z.world fun e w' => e = .returned v ∧ z.world = w') : Calls P f args z.world fun e w'' => e = .returned v ∧ ∃ z' : Ext w, w'' = z'.world :=
  h.mono fun _ _ ⟨he, hb⟩ => ⟨he, ⟨z, hb.symm⟩⟩

theorem min_if (x y : Int) : (if y < x then y else x) = min x y := by split <;> omega
theorem max_if (x y : Int) : (if x < y then y else x) = max x y := by split <;> omega
section
variable {P : Program} (w : World) (ts : Array TypeId) (t : TypeId) (k k' k'' k3 : IntKind) (x y z u : Int)
@[go_sem high] theorem run_min2 : (Builtin.min_ ts t #[.int k x, .int k' y]).run P w = .ok (.int k (min x y)) w := by simp [Builtin.min_, Builtin.min2, min_if]
@[go_sem high] theorem run_max2 : (Builtin.max_ ts t #[.int k x, .int k' y]).run P w = .ok (.int k (max x y)) w := by simp [Builtin.max_, Builtin.max2, max_if]
@[go_sem high] theorem run_max3 : (Builtin.max_ ts t #[.int k x, .int k' y, .int k'' z]).run P w = .ok (.int k (max (max x y) z)) w := by simp [Builtin.max_, Builtin.max2, max_if]
@[go_sem high] theorem run_max4 : (Builtin.max_ ts t #[.int k x, .int k' y, .int k'' z, .int k3 u]).run P w = .ok (.int k (max (max (max x y) z) u)) w := by simp [Builtin.max_, Builtin.max2, max_if]
@[go_sem high] theorem run_max5 (v : Int) : (Builtin.max_ ts t #[.int k x, .int k' y, .int k'' z, .int k3 u, .int k3 v]).run P w = .ok (.int k (max (max (max (max x y) z) u) v)) w := by simp [Builtin.max_, Builtin.max2, max_if]
end
theorem not_and_of_or {p q : Prop} (h : ¬p ∨ ¬q) : ¬(p ∧ q) := fun ⟨a, b⟩ => h.elim (fun n => n a) (fun n => n b)
/-- The length in a slot that holds a slice; 1 in a slot that holds true: for measures. -/
def lenOf : Value → Nat | .slice _ n _ => n | _ => 0
def flagOf : Value → Nat | .bool true => 1 | _ => 0
theorem tf {P : Prop} (h : true = false) : P := by cases h
theorem ret_int {k : IntKind} {a b : Int} (h : a = b) : Ending.returned (.int k a) = .returned (.int k b) := by rw [h]
theorem ret_bool {a b : Bool} (h : a = b) : Ending.returned (.bool a) = .returned (.bool b) := by rw [h]
end Go.Proofs.Ytnhnkmppmicjoaa
