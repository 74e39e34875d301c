/- General lemmas on worlds, drawn regions and slices, over any program. No condition. A slice that reads as a list: of integers, of positions, of cells. A slice of the call's own that grows element by element. Slices whose elements lead to memory (patterns, frames): a list of things, each of which reads as a datum; such slices of the call's own, appended to. Over any program. Nodes of rule trees in memory: a level and a slice of numbers. Over any program. A slice of the call's own, sorted in place: the bridge to the library's words on sorts. Over any program. Stores into a row of the call's own: one element, a cleared tail. Over any program. Worlds in which all that lay in an elder one lies as it did: for regions that draw their order. Over any program. append of one element, with the place of the new row; boxes behind an append. Over any program. Rows of numbers of the call's own that are made with zeros and stored into. Patterns that lie in new blocks. Over any program. Append where the source's type is another name of the same slice type. append of all elements of a slice onto a row of the call's own. Over any program. -/
import Derived.WalkKit
import Derived.BigQuiet
import Derived.Deep.Draws
import Derived.Lib.Hide
import Derived.Laws.OwnMore
import Derived.Deep.AppendLies
import Derived.Maps.AppendAt
import Derived.OwnWalk
import Derived.Shelf.SlSortCmp.NoneTotal
import Derived.Lib.SliceRun
import Derived.Test.YtellglbmbocgkaaGreatDoorProg
import Derived.Deep.OwnRows
set_option linter.unusedSimpArgs false
set_option linter.unusedVariables false
section
namespace Go.Proofs.YtellglbmbocgkaaGreatDoor
open Go Go.RowKit

theorem below_after {B C : Nat} {a w1 w2 : World} (h : Below C w1 w2) (k : Below B a w1) (hBC : B ≤ C) : Below B a w2 := k.trans (h.mono hBC)
theorem below_drewN {B : Nat} {a w : World} (h : Below B a w) (n : Nat) : Below B a (w.drewN n) := ⟨h.os, h.tape, h.output, h.size, h.block⟩

def cellOf (w : World) (p : Addr) : Option Value := w.cell? p
def frozenOf (w : World) (p : Addr) : Bool := w.frozen? p
theorem bcell {B : Nat} {W w1 : World} (hb : Below B W w1) : (∀ b o, w1.cell? ⟨b, o, none⟩ = if b < B then W.cell? ⟨b, o, none⟩ else cellOf w1 ⟨b, o, none⟩) ∧ (∀ b o, w1.frozen? ⟨b, o, none⟩ = if b < B then W.frozen? ⟨b, o, none⟩ else frozenOf w1 ⟨b, o, none⟩) :=
  ⟨fun b o => by split; exact hb.cell (p := ⟨b, o, none⟩) ‹_›; rfl, fun b o => by split; exact hb.frozen (p := ⟨b, o, none⟩) ‹_›; rfl⟩
@[go_sem high] theorem cell_alloc_if (w : World) (c : Array Value) (t : TypeId) (fr : Nat × Nat) (n i : Nat) : (w.alloc (.cells c t fr)).cell? ⟨n, i, none⟩ = if n < w.heap.size then w.cell? ⟨n, i, none⟩ else if n = w.heap.size then c[i]? else none := by
  by_cases h : n < w.heap.size
  · rw [if_pos h]; exact World.cell?_of_block (heap_alloc_old w _ h)
  · rw [if_neg h]
    by_cases e : n = w.heap.size
    · subst e; rw [if_pos rfl]; unfold World.cell?; rw [show (w.alloc (.cells c t fr)).heap[(⟨w.heap.size, i, none⟩ : Addr).block]? = some (.cells c t fr) from heap_alloc_new w _]; rfl
    · rw [if_neg e]
      have : (w.alloc (.cells c t fr)).heap[n]? = none := Array.getElem?_eq_none (by simp; omega)
      simp [World.cell?, this]
@[go_sem high] theorem frozen_alloc_if (w : World) (c : Array Value) (t : TypeId) (n i : Nat) : (w.alloc (.cells c t)).frozen? ⟨n, i, none⟩ = if n < w.heap.size then w.frozen? ⟨n, i, none⟩ else false := by
  by_cases h : n < w.heap.size
  · rw [if_pos h]; exact World.frozen?_of_block (heap_alloc_old w _ h)
  · rw [if_neg h]
    by_cases e : n = w.heap.size
    · subst e; unfold World.frozen?; rw [show (w.alloc (.cells c t)).heap[(⟨w.heap.size, i, none⟩ : Addr).block]? = some (.cells c t) from heap_alloc_new w _]; simp
    · have : (w.alloc (.cells c t)).heap[n]? = none := Array.getElem?_eq_none (by simp; omega)
      simp [World.frozen?, this]

@[go_sem high] theorem cell_setCell_if (w : World) (b i b' i' : Nat) (v : Value) : (w.setCell ⟨b, i, none⟩ v).cell? ⟨b', i', none⟩ = if b = b' ∧ i = i' then (w.cell? ⟨b, i, none⟩).map (fun _ => v) else w.cell? ⟨b', i', none⟩ := by
  split
  · rename_i h
    obtain ⟨rfl, rfl⟩ := h
    cases e : w.cell? ⟨b, i, none⟩ with
    | some u => rw [World.cell?_setCell_same w _ v e]; rfl
    | none =>
      have h2 : (w.setCell ⟨b, i, none⟩ v).cell? ⟨b, i, none⟩ = none := by
        unfold World.cell? at e ⊢
        simp only [World.setCell, Array.getElem?_modify]
        cases hb : w.heap[b]? with
        | none => simp
        | some o =>
          rw [hb] at e
          cases o <;> simp_all
      rw [h2]; rfl
  · rename_i h
    exact World.cell?_setCell_other w _ _ v (fun e => h (by injection e with e1 e2; exact ⟨e1, e2⟩))

def Ext (w : World) : Type := { z : World // Below w.heap.size w z }
instance (w : World) : Nonempty (Ext w) := ⟨⟨w, Below.refl _ _⟩⟩
def Ext.world {w : World} (z : Ext w) : World := z.1
theorem Ext.below {w : World} (z : Ext w) : Below w.heap.size w z.world := z.2
@[go_sem] theorem Ext.cell {w : World} (z : Ext w) (b o : Nat) : z.world.cell? ⟨b, o, none⟩ = if b < w.heap.size then w.cell? ⟨b, o, none⟩ else cellOf z.world ⟨b, o, none⟩ := (bcell z.below).1 b o
theorem Ext.frozen {w : World} (z : Ext w) (b o : Nat) : z.world.frozen? ⟨b, o, none⟩ = if b < w.heap.size then w.frozen? ⟨b, o, none⟩ else frozenOf z.world ⟨b, o, none⟩ := (bcell z.below).2 b o
theorem Ext.size {w : World} (z : Ext w) : w.heap.size ≤ z.world.heap.size := z.below.size

theorem wp_region_ext_lit {P : Program} {id : Nat} {Q : Exit → Act → World → Prop} {a : Act} {w : World} {l : List Oper} (hm : P.follows .mixedOrders = true) (hB : Region.lexB .any l.toArray = true)
    (h : wpQuiet P l.toArray (fun w' => ∃ z : Ext w, w' = z.world) (fun a' => ∀ w', (∃ z : Ext w, w' = z.world) → Q .normal a' w') l a) : (Code.region id l.toArray true).wp P Q a w :=
  wp_region_quiet (C := fun w' => ∃ z : Ext w, w' = z.world) hm hB ⟨⟨w.drew, (Below.refl _ _).drew⟩, rfl⟩ (by simpa using h)

theorem calls_ext {P : Program} {f : FuncId} {args : Array Value} {w : World} {v : Value} {z : Ext w}
    (h : Calls P f args z.world fun e w' => e = .returned v ∧ Below z.world.heap.size z.world w') : Calls P f args z.world fun e w'' => e = .returned v ∧ ∃ z' : Ext w, w'' = z'.world :=
  h.mono fun _ w' ⟨he, hb⟩ => ⟨he, ⟨⟨w', below_after hb z.below z.below.size⟩, rfl⟩⟩
theorem calls_ext_same {P : Program} {f : FuncId} {args : Array Value} {w : World} {v : Value} {z : Ext w}
    (h : Calls P f args z.world fun e w' => e = .returned v ∧ z.world = w') : Calls P f args z.world fun e w'' => e = .returned v ∧ ∃ z' : Ext w, w'' = z'.world :=
  h.mono fun _ _ ⟨he, hb⟩ => ⟨he, ⟨z, hb.symm⟩⟩

theorem min_if (x y : Int) : (if y < x then y else x) = min x y := by split <;> omega
theorem max_if (x y : Int) : (if x < y then y else x) = max x y := by split <;> omega
section
variable {P : Program} (w : World) (ts : Array TypeId) (t : TypeId) (k k' k'' k3 : IntKind) (x y z u : Int)
@[go_sem high] theorem run_min2 : (Builtin.min_ ts t #[.int k x, .int k' y]).run P w = .ok (.int k (min x y)) w := by simp [Builtin.min_, Builtin.min2, min_if]
@[go_sem high] theorem run_max2 : (Builtin.max_ ts t #[.int k x, .int k' y]).run P w = .ok (.int k (max x y)) w := by simp [Builtin.max_, Builtin.max2, max_if]
@[go_sem high] theorem run_max3 : (Builtin.max_ ts t #[.int k x, .int k' y, .int k'' z]).run P w = .ok (.int k (max (max x y) z)) w := by simp [Builtin.max_, Builtin.max2, max_if]
@[go_sem high] theorem run_max4 : (Builtin.max_ ts t #[.int k x, .int k' y, .int k'' z, .int k3 u]).run P w = .ok (.int k (max (max (max x y) z) u)) w := by simp [Builtin.max_, Builtin.max2, max_if]
@[go_sem high] theorem run_max5 (v : Int) : (Builtin.max_ ts t #[.int k x, .int k' y, .int k'' z, .int k3 u, .int k3 v]).run P w = .ok (.int k (max (max (max (max x y) z) u) v)) w := by simp [Builtin.max_, Builtin.max2, max_if]
end
def lenOf : Value → Nat | .slice _ n _ => n | _ => 0
theorem ret_int {k : IntKind} {a b : Int} (h : a = b) : Ending.returned (.int k a) = .returned (.int k b) := by rw [h]
theorem ret_bool {a b : Bool} (h : a = b) : Ending.returned (.bool a) = .returned (.bool b) := by rw [h]
end Go.Proofs.YtellglbmbocgkaaGreatDoor
end
section
namespace Go.Proofs.YtellglbmbocgkaaGreatDoor
open Go Go.RowKit

def encI (x : Int) : List Value := [.int .i64 x]
def encP (p : Int × Int) : List Value := [.int .i64 p.1, .int .i64 p.2]
def encC (c : Int × Int × Int) : List Value := [.int .i64 c.1, .int .i64 c.2.1, .int .i64 c.2.2]

/-- The slice value '.slice A n c' reads as the list l in the world w: each element lies as 'enc' says, k cells. -/
def Rd {α : Type} (enc : α → List Value) (k : Nat) (w : World) (A : Option Addr) (n : Nat) (l : List α) : Prop :=
  l.length = n ∧ (0 < n → ∃ b o, A = some ⟨b, o, none⟩ ∧ b < w.heap.size ∧ ∀ (i : Nat) (x : α), l[i]? = some x → ∀ (j : Nat) (u : Value), (enc x)[j]? = some u → w.cell? ⟨b, o + i * k + j, none⟩ = some u)

section
variable {α : Type} {enc : α → List Value} {k : Nat} {w w' : World} {A : Option Addr} {n : Nat} {l : List α}
theorem Rd.nil_ : Rd enc k w A 0 [] := ⟨rfl, fun h => absurd h (by omega)⟩
theorem Rd.keep (h : Rd enc k w A n l) (hs : w.heap.size ≤ w'.heap.size) (hk : ∀ b o, b < w.heap.size → w'.cell? ⟨b, o, none⟩ = w.cell? ⟨b, o, none⟩) : Rd enc k w' A n l :=
  ⟨h.1, fun hn => by
    obtain ⟨b, o, e, hb, hc⟩ := h.2 hn
    exact ⟨b, o, e, by omega, fun i x hi j u hu => (hk _ _ hb).trans (hc i x hi j u hu)⟩⟩
theorem Rd.of (h : Rd enc k w A n l) (hb : Below w.heap.size w w') : Rd enc k w' A n l := h.keep hb.size fun _ _ hlt => hb.cell (p := ⟨_, _, none⟩) hlt
theorem Rd.drew (h : Rd enc k w A n l) : Rd enc k w.drew A n l := h
theorem Rd.len (h : Rd enc k w A n l) : l.length = n := h.1
theorem Rd.elem (h : Rd enc k w A n l) {i : Nat} (hi : i < n) : ∃ x b o, l[i]? = some x ∧ A = some ⟨b, o, none⟩ ∧ b < w.heap.size ∧ ∀ (j : Nat) (u : Value), (enc x)[j]? = some u → w.cell? ⟨b, o + i * k + j, none⟩ = some u := by
  obtain ⟨b, o, e, hb, hc⟩ := h.2 (by omega)
  have hl : i < l.length := by rw [h.1]; exact hi
  exact ⟨l[i], b, o, List.getElem?_eq_getElem hl, e, hb, hc i _ (List.getElem?_eq_getElem hl)⟩
end
/-- The element at i, its cells spelled as the walk spells them. -/
theorem Rd.int {w : World} {A : Option Addr} {n : Nat} {l : List Int} (h : Rd encI 1 w A n l) {i : Nat} (hi : i < n) :
    ∃ x b o, Hid (l[i]? = some x) ∧ A = some ⟨b, o, none⟩ ∧ b < w.heap.size ∧ w.cell? ⟨b, o + i, none⟩ = some (.int .i64 x) := by
  obtain ⟨x, b, o, h1, h2, h3, h4⟩ := h.elem hi
  exact ⟨x, b, o, h1, h2, h3, by simpa using h4 0 _ rfl⟩
theorem Rd.pt {w : World} {A : Option Addr} {n : Nat} {l : List (Int × Int)} (h : Rd encP 2 w A n l) {i : Nat} (hi : i < n) :
    ∃ x y b o, Hid (l[i]? = some (x, y)) ∧ A = some ⟨b, o, none⟩ ∧ b < w.heap.size ∧ w.cell? ⟨b, o + i * 2, none⟩ = some (.int .i64 x) ∧ w.cell? ⟨b, o + i * 2 + 1, none⟩ = some (.int .i64 y) := by
  obtain ⟨p, b, o, h1, h2, h3, h4⟩ := h.elem hi
  exact ⟨p.1, p.2, b, o, h1, h2, h3, by simpa using h4 0 _ rfl, h4 1 _ rfl⟩
theorem Rd.cell {w : World} {A : Option Addr} {n : Nat} {l : List (Int × Int × Int)} (h : Rd encC 3 w A n l) {i : Nat} (hi : i < n) :
    ∃ x y s b o, Hid (l[i]? = some (x, y, s)) ∧ A = some ⟨b, o, none⟩ ∧ b < w.heap.size ∧ w.cell? ⟨b, o + i * 3, none⟩ = some (.int .i64 x) ∧ w.cell? ⟨b, o + i * 3 + 1, none⟩ = some (.int .i64 y) ∧ w.cell? ⟨b, o + i * 3 + 2, none⟩ = some (.int .i64 s) := by
  obtain ⟨p, b, o, h1, h2, h3, h4⟩ := h.elem hi
  exact ⟨p.1, p.2.1, p.2.2, b, o, h1, h2, h3, by simpa using h4 0 _ rfl, h4 1 _ rfl, h4 2 _ rfl⟩
end Go.Proofs.YtellglbmbocgkaaGreatDoor
end
section
namespace Go.Proofs.YtellglbmbocgkaaGreatDoor
open Go Go.RowKit

/-- The slice '.slice A n c' lies in a row of the call's own (from block B on) and holds the list l, k cells an element. -/
structure Own {α : Type} (enc : α → List Value) (k : Nat) (e : TypeId) (B : Nat) (w : World) (A : Option Addr) (n c : Nat) (l : List α) : Prop where
  row : w.ownsRow B e k (.slice A n c) n (l.flatMap enc)
  len : l.length = n

section
variable {α : Type} {enc : α → List Value} {k : Nat} {e : TypeId} {B : Nat} {w w' : World} {A : Option Addr} {n c : Nat} {l : List α}
theorem Own.nil_ : Own enc k e B w none 0 0 [] := ⟨World.ownsRow_nil _ _ _ _, rfl⟩
theorem Own.of (h : Own enc k e B w A n c l) (hb : Below w.heap.size w w') : Own enc k e B w' A n c l := by
  refine ⟨⟨h.row.1, ?_⟩, h.len⟩
  rcases h.row.2 with h0 | ⟨g, cap, cur, hv, hg, hh, r⟩
  · exact .inl h0
  · exact .inr ⟨g, cap, cur, hv, hg, (hb.block g (Array.getElem?_eq_some_iff.1 hh).1).trans hh, r⟩
theorem Own.drew (h : Own enc k e B w A n c l) : Own enc k e B w.drew A n c l := ⟨h.row, h.len⟩
theorem Own.alloc (h : Own enc k e B w A n c l) (o : Obj) : Own enc k e B (w.alloc o) A n c l := h.of ((Below.refl _ _).alloc (Nat.le_refl _) o)
theorem Own.more {B' : Nat} (h : Own enc k e B w A n c l) (hB : B' ≤ B) : Own enc k e B' w A n c l := by
  refine ⟨⟨h.row.1, ?_⟩, h.len⟩
  rcases h.row.2 with h0 | ⟨g, cap, cur, hv, hg, hh, r⟩
  · exact .inl h0
  · exact .inr ⟨g, cap, cur, hv, by omega, hh, r⟩
/-- Below the base nothing of it is written: a world that agrees from the base on (but for other rows) keeps it. -/
theorem Own.setBelow (h : Own enc k e B w A n c l) {b i : Nat} (hb : b < B) (u : Value) : Own enc k e B (w.setCell ⟨b, i, none⟩ u) A n c l :=
  ⟨ownsRow_setCell_below h.row (a := ⟨b, i, none⟩) hb u, h.len⟩
theorem flatMap_get (hk : ∀ x, (enc x).length = k) : ∀ (l : List α) (i : Nat) (x : α), l[i]? = some x → ∀ (j : Nat) (u : Value), (enc x)[j]? = some u → (l.flatMap enc)[i * k + j]? = some u
  | [], i, x, hi, _, _, _ => by simp at hi
  | y :: l, 0, x, hi, j, u, hu => by
    have e : y = x := by simpa using hi
    subst e
    have hj := (List.getElem?_eq_some_iff.1 hu).1
    rw [List.flatMap_cons, Nat.zero_mul, Nat.zero_add, List.getElem?_append_left hj]
    exact hu
  | y :: l, i + 1, x, hi, j, u, hu => by
    have h1 := flatMap_get hk l i x (by simpa using hi) j u hu
    rw [List.flatMap_cons, List.getElem?_append_right (by rw [hk, Nat.add_mul, Nat.one_mul]; omega), hk, show (i + 1) * k + j - k = i * k + j by rw [Nat.add_mul, Nat.one_mul]; omega]
    exact h1
theorem flatMap_len (hk : ∀ x, (enc x).length = k) (l : List α) : (l.flatMap enc).length = l.length * k := by
  induction l with
  | nil => simp
  | cons y l ih => rw [List.flatMap_cons, List.length_append, hk, ih, List.length_cons, Nat.add_mul, Nat.one_mul, Nat.add_comm]
theorem Own.rd (h : Own enc k e B w A n c l) (hk : ∀ x, (enc x).length = k) : Rd enc k w A n l := by
  refine ⟨h.len, fun hn => ?_⟩
  rcases h.row.2 with ⟨_, h0⟩ | ⟨g, cap, cur, hv, hg, hh, h1, h2, h3, h4⟩
  · omega
  · injection hv with hA hn' hc'
    subst hA
    refine ⟨g, 0, rfl, (Array.getElem?_eq_some_iff.1 hh).1, fun i x hi j u hu => ?_⟩
    have hf := flatMap_get hk l i x hi j u hu
    have hlt := (List.getElem?_eq_some_iff.1 hf).1
    rw [flatMap_len hk, h.len] at hlt
    rw [Nat.zero_add, cell_of_row w g (i * k + j) cur e (0, 0) hh, ← hf, ← h4, List.getElem?_take, if_pos hlt]
    simp
theorem Own.above (h : Own enc k e B w A n c l) : ∀ g, (Value.slice A n c).ownBlock = some g → B ≤ g := fun g hg => (h.row.lt g hg).1
end

/-- append of ONE element onto a row of the call's own. -/
theorem wpList_append_el {α : Type} {P : Program} {w : World} {ops : Array Oper} {rest : List Oper} {o : Oper} {a : Act} {Q : Exit → Act → World → Prop} (hgd : o.guard = none) (s x : Operand) (t : TypeId)
    (ho : o.op = .call { callee := .builtin .append, args := #[s, x], argTypes := #[t, t] })
    (enc : α → List Value) (k : Nat) (e : TypeId) (z : Value) (bytes : Nat) (ht : P.underlying t = some (.slice e)) (hi : (P.info? e).map (fun i => (i.zero, i.size, i.bytes)) = some (some z, k, bytes)) (hzs : z.cells.size = k) (hk0 : 0 < k)
    (hk : ∀ y, (enc y).length = k) (h1c : ∀ y, ∀ u ∈ enc y, u.oneCell' = true)
    (B : Nat) (A : Option Addr) (n c : Nat) (l : List α) (hs : a.eval s = .slice A n c) (hown : Own enc k e B w A n c l)
    (y : α) (ad : Addr) (m : Nat) (hx : a.eval x = .slice (some ad) 1 m) (hnews : ∀ j u, (enc y)[j]? = some u → w.cell? (ad.add j) = some u)
    (hbytes : (n + 1) * bytes ≤ 140737488355328) (hn : n + 1 ≤ 4611686018427387904) (hbase : B ≤ w.heap.size)
    (h : ∀ A' c' w', Own enc k e B w' A' (n + 1) c' (l ++ [y]) → w.grownBy w' (Value.slice A n c).ownBlock → Below B w w' → wpList P ops Q rest (a.put o.dst (.slice A' (n + 1) c')) w') : wpList P ops Q (o :: rest) a w := by
  obtain ⟨i, hi0, hz0, hz1, hz2⟩ := info_parts hi
  refine wpList_append_own w hgd s x t ho B e i z k bytes ht hi0 hz0 hz1 hz2 hzs hk0 (.slice A n c) n (l.flatMap enc) hs hown.row ad 1 m (enc y) hx (by rw [hk]; omega) hnews (h1c y)
    (by unfold maxLen; omega) hbytes hbase ?_
  intro v' w' hv hg _
  have hgB : Below B w w' := (Below.refl _ _).grown hg hbase hown.above
  rcases hv.2 with ⟨_, h0⟩ | ⟨g, cap, cur, rfl, hr⟩
  · omega
  · exact h _ _ w' ⟨by simpa using ⟨hv.1, Or.inr ⟨g, cap, cur, rfl, hr⟩⟩, by simp [hown.len]⟩ hg hgB
/-- The same at a step of a region that draws its order. -/
theorem step_append_el {α : Type} {P : Program} {w : World} {ops : Array Oper} {o : Oper} {a : Act} {K : Act → World → Prop} {Q : Exit → Act → World → Prop} {E : Prop} (hgd : o.guard = none) (s x : Operand) (t : TypeId)
    (ho : o.op = .call { callee := .builtin .append, args := #[s, x], argTypes := #[t, t] })
    (enc : α → List Value) (k : Nat) (e : TypeId) (z : Value) (bytes : Nat) (ht : P.underlying t = some (.slice e)) (hi : (P.info? e).map (fun i => (i.zero, i.size, i.bytes)) = some (some z, k, bytes)) (hzs : z.cells.size = k) (hk0 : 0 < k)
    (hk : ∀ y, (enc y).length = k) (h1c : ∀ y, ∀ u ∈ enc y, u.oneCell' = true)
    (B : Nat) (A : Option Addr) (n c : Nat) (l : List α) (hs : a.eval s = .slice A n c) (hown : Own enc k e B w A n c l)
    (y : α) (ad : Addr) (m : Nat) (hx : a.eval x = .slice (some ad) 1 m) (hnews : ∀ j u, (enc y)[j]? = some u → w.cell? (ad.add j) = some u)
    (hbytes : (n + 1) * bytes ≤ 140737488355328) (hn : n + 1 ≤ 4611686018427387904) (hbase : B ≤ w.heap.size)
    (h : ∀ A' c' w', Own enc k e B w' A' (n + 1) c' (l ++ [y]) → w.grownBy w' (Value.slice A n c).ownBlock → Below B w w' → K (a.put o.dst (.slice A' (n + 1) c')) w') :
    if Region.wanted o (yielded ops a.tmps) = true then Oper.wp P o a w K Q else E := by
  obtain ⟨i, hi0, hz0, hz1, hz2⟩ := info_parts hi
  refine step_append_lies _ hgd s x t ho B e i z k bytes ht hi0 hz0 hz1 hz2 hzs hk0 (.slice A n c) n (l.flatMap enc) hs hown.row ad 1 m (enc y) hx (by rw [hk]; omega) hnews (h1c y)
    (by omega) (by unfold maxLen; omega) hbytes hbase w.heap.size rfl ?_
  intro g cap w' hv hg _ _
  have hgB : Below B w w' := (Below.refl _ _).grown hg hbase hown.above
  exact h _ _ w' ⟨by simpa using hv, by simp [hown.len]⟩ hg hgB
/-- make([]T, 0, n): a row of the call's own with room for n. -/
theorem wpList_make_el {α : Type} {P : Program} {w : World} {ops : Array Oper} {rest : List Oper} {o : Oper} {a : Act} {Q : Exit → Act → World → Prop} (hgd : o.guard = none) (s x : Operand) (t : TypeId)
    (ho : o.op = Op.makeSlice t s x) (enc : α → List Value) (k : Nat) (e : TypeId) (z : Value) (bytes : Nat) (ht : P.underlying t = some (.slice e)) (hi : (P.info? e).map (fun i => (i.zero, i.size, i.bytes)) = some (some z, k, bytes))
    (B : Nat) (C : Int) (n : Nat) (hs : a.eval s = .int .i64 0) (hx : a.eval x = .int .i64 C) (hC : C = (n : Int)) (hbytes : bytes * n ≤ 281474976710656) (hn : n ≤ 4611686018427387904) (hbase : B ≤ w.heap.size)
    (h : ∀ w', Own enc k e B w' (some ⟨w.heap.size, 0, none⟩) 0 n [] → Below w.heap.size w w' → wpList P ops Q rest (a.put o.dst (.slice (some ⟨w.heap.size, 0, none⟩) 0 n)) w') : wpList P ops Q (o :: rest) a w := by
  obtain ⟨i, hi0, hz0, hz1, hz2⟩ := info_parts hi
  refine wpList_make_own w hgd s x t ho B e i z k ht hi0 hz0 hz1 .i64 .i64 C n hs hx hC (by rw [hz2]; exact hbytes) (by unfold maxLen; omega) hbase ?_
  intro w' h1 h2
  exact h w' ⟨h1, rfl⟩ ((Below.refl _ _).grown h2 (Nat.le_refl _) (by simp))
/-- A new block's cells. -/
theorem cells_new (w : World) (vs : List Value) (t : TypeId) : ∀ j u, vs[j]? = some u → (w.alloc (.cells vs.toArray t)).cell? ((⟨w.heap.size, 0, none⟩ : Addr).add j) = some u := by
  intro j u hu
  have e : (⟨w.heap.size, 0, none⟩ : Addr).add j = ⟨w.heap.size, j, none⟩ := by unfold Addr.add; split <;> simp_all
  rw [e, cell_alloc_if, if_neg (by omega), if_pos rfl]
  simpa using hu
/-- A literal's new block is a row of the call's own. -/
theorem Own.lit {α : Type} {enc : α → List Value} {k : Nat} (hk : ∀ x, (enc x).length = k) (w : World) (e : TypeId) (B : Nat) (hB : B ≤ w.heap.size) (l : List α) (n : Nat) (hn : l.length = n) (hm : n ≤ 4611686018427387904) (cs : List Value) (hcs : cs = l.flatMap enc) :
    Own enc k e B (w.alloc (.cells cs.toArray e)) (some ⟨w.heap.size, 0, none⟩) n n l := by
  subst hcs
  refine ⟨?_, hn⟩
  have h := World.ownsRow_lit (base := B) (e := e) (size := k) w (l.flatMap enc).toArray n hB (by unfold maxLen; omega) (by simp [flatMap_len hk, hn])
  simpa using h
theorem encI_len (x : Int) : (encI x).length = 1 := rfl
theorem encP_len (x : Int × Int) : (encP x).length = 2 := rfl
theorem encC_len (x : Int × Int × Int) : (encC x).length = 3 := rfl
theorem encI_one : ∀ y, ∀ u ∈ encI y, u.oneCell' = true := by intro y u hu; simp [encI] at hu; subst hu; rfl
theorem encP_one : ∀ y, ∀ u ∈ encP y, u.oneCell' = true := by
  intro y u hu
  simp only [encP, List.mem_cons, List.not_mem_nil, or_false] at hu
  rcases hu with rfl | rfl <;> rfl
theorem encC_one : ∀ y, ∀ u ∈ encC y, u.oneCell' = true := by
  intro y u hu
  simp only [encC, List.mem_cons, List.not_mem_nil, or_false] at hu
  rcases hu with rfl | rfl | rfl <;> rfl
end Go.Proofs.YtellglbmbocgkaaGreatDoor
end
section
namespace Go.Proofs.YtellglbmbocgkaaGreatDoor
open Go Go.RowKit
/-- A kind of elements: an element's cells; what it reads as in a world; the blocks in which that lies. -/
structure EK (α β : Type) where
  enc : α → List Value
  k : Nat
  len : ∀ a, (enc a).length = k
  one : ∀ a, ∀ u ∈ enc a, u.oneCell' = true
  pos : 0 < k
  rel : World → α → β → Prop
  blk : α → List Nat
  keep : ∀ {w w' : World} {a : α} {b : β} {row : Option Nat}, rel w a b → w.grownBy w' row → (∀ q ∈ blk a, some q ≠ row) → rel w' a b
  lt : ∀ {w : World} {a : α} {b : β}, rel w a b → ∀ q ∈ blk a, q < w.heap.size
section
variable {α β : Type} (K : EK α β)
/-- Each element reads as its datum. -/
def EK.All (w : World) (xs0 : List α) (bs : List β) : Prop := xs0.length = bs.length ∧ ∀ (i : Nat) a b, xs0[i]? = some a → bs[i]? = some b → K.rel w a b
/-- The slice '.slice A n c' reads as the list bs. -/
def RdX (w : World) (A : Option Addr) (n : Nat) (bs : List β) : Prop := ∃ xs0, Rd K.enc K.k w A n xs0 ∧ K.All w xs0 bs
/-- The same slice in a row of the call's own, which no element leads to. -/
def OwnX (e : TypeId) (B : Nat) (w : World) (A : Option Addr) (n c : Nat) (bs : List β) : Prop := ∃ xs0, Own K.enc K.k e B w A n c xs0 ∧ K.All w xs0 bs ∧ ∀ a ∈ xs0, ∀ q ∈ K.blk a, some q ≠ (Value.slice A n c).ownBlock
variable {K} {w w' : World} {xs0 : List α} {bs : List β} {a : α} {b : β} {A : Option Addr} {n c B : Nat} {e : TypeId} {row : Option Nat}
theorem grown_of_below (h : Below w.heap.size w w') : w.grownBy w' none := ⟨h.os, h.tape, h.output, h.size, fun i hi _ => h.block i hi⟩
theorem EK.All.keep (g : K.All w xs0 bs) (hg : w.grownBy w' row) (hr : ∀ a ∈ xs0, ∀ q ∈ K.blk a, some q ≠ row) : K.All w' xs0 bs := ⟨g.1, fun i a b h1 h2 => K.keep (g.2 i a b h1 h2) hg (hr a (List.mem_of_getElem? h1))⟩
theorem EK.All.of (g : K.All w xs0 bs) (hb : Below w.heap.size w w') : K.All w' xs0 bs := g.keep (grown_of_below hb) (fun _ _ _ _ h => by cases h)
theorem EK.All.nil_ : K.All w [] [] := ⟨rfl, fun i a b h1 _ => by simp at h1⟩
theorem EK.All.snoc (g : K.All w xs0 bs) (k : K.rel w a b) : K.All w (xs0 ++ [a]) (bs ++ [b]) := by
  refine ⟨by simp [g.1], fun i h' l' h1 h2 => ?_⟩
  rcases Nat.lt_or_ge i xs0.length with hi | hi
  · rw [List.getElem?_append_left hi] at h1
    rw [List.getElem?_append_left (by rw [← g.1]; exact hi)] at h2
    exact g.2 i h' l' h1 h2
  · rw [List.getElem?_append_right hi] at h1
    rw [List.getElem?_append_right (by rw [← g.1]; exact hi), ← g.1] at h2
    have e : i - xs0.length = 0 := by
      have := (List.getElem?_eq_some_iff.1 h1).1
      simp at this; omega
    rw [e] at h1 h2
    simp at h1 h2
    subst h1 h2
    exact k
theorem EK.All.lt (g : K.All w xs0 bs) : ∀ a ∈ xs0, ∀ q ∈ K.blk a, q < w.heap.size := by
  intro a ha q hq
  obtain ⟨i, hi, rfl⟩ := List.getElem_of_mem ha
  have hb : i < bs.length := by rw [← g.1]; exact hi
  exact K.lt (g.2 i xs0[i] bs[i] (List.getElem?_eq_getElem hi) (List.getElem?_eq_getElem hb)) q hq
theorem RdX.of (g : RdX K w A n bs) (hb : Below w.heap.size w w') : RdX K w' A n bs := by
  obtain ⟨xs0, h1, h2⟩ := g
  exact ⟨xs0, h1.of hb, h2.of hb⟩
theorem RdX.nil_ : RdX K w A 0 ([] : List β) := ⟨[], Rd.nil_, EK.All.nil_⟩
theorem RdX.len (g : RdX K w A n bs) : bs.length = n := by
  obtain ⟨xs0, h1, h2⟩ := g
  rw [← h2.1, h1.len]
theorem RdX.elem (g : RdX K w A n bs) {i : Nat} (hi : i < n) : ∃ a b bo o, bs[i]? = some b ∧ A = some ⟨bo, o, none⟩ ∧ bo < w.heap.size ∧ (∀ (j : Nat) (u : Value), (K.enc a)[j]? = some u → w.cell? ⟨bo, o + i * K.k + j, none⟩ = some u) ∧ K.rel w a b := by
  obtain ⟨xs0, h1, h2⟩ := g
  obtain ⟨x, b, o, h3, h4, h5, h6⟩ := h1.elem hi
  have hl : i < bs.length := by rw [← h2.1, h1.len]; exact hi
  exact ⟨x, bs[i], b, o, List.getElem?_eq_getElem hl, h4, h5, h6, h2.2 i x bs[i] h3 (List.getElem?_eq_getElem hl)⟩
theorem OwnX.nil_ : OwnX K e B w none 0 0 ([] : List β) := ⟨[], Own.nil_, EK.All.nil_, fun a ha => by cases ha⟩
theorem OwnX.of (g : OwnX K e B w A n c bs) (hb : Below w.heap.size w w') : OwnX K e B w' A n c bs := by
  obtain ⟨xs0, h1, h2, h3⟩ := g
  exact ⟨xs0, h1.of hb, h2.of hb, h3⟩
theorem OwnX.alloc (g : OwnX K e B w A n c bs) (o : Obj) : OwnX K e B (w.alloc o) A n c bs := g.of ((Below.refl _ _).alloc (Nat.le_refl _) o)
theorem OwnX.more {B' : Nat} (g : OwnX K e B w A n c bs) (hB : B' ≤ B) : OwnX K e B' w A n c bs := by
  obtain ⟨xs0, h1, h2, h3⟩ := g
  exact ⟨xs0, h1.more hB, h2, h3⟩
theorem OwnX.rd (g : OwnX K e B w A n c bs) : RdX K w A n bs := by
  obtain ⟨xs0, h1, h2, h3⟩ := g
  exact ⟨xs0, h1.rd K.len, h2⟩
theorem OwnX.len (g : OwnX K e B w A n c bs) : bs.length = n := g.rd.len
theorem OwnX.lt (g : OwnX K e B w A n c bs) : ∀ q, (Value.slice A n c).ownBlock = some q → q < w.heap.size := by
  obtain ⟨xs0, h1, _, _⟩ := g
  intro q hq
  exact (h1.row.lt q hq).2
end
section
variable {α β : Type} {K : EK α β} {P : Program} {w : World} {ops : Array Oper} {rest : List Oper} {o : Oper} {a : Act} {Q : Exit → Act → World → Prop}
/-- append of ONE element onto such a row. The element's cells lie in a block of their own; the element leads to blocks other than the row's. -/
theorem wpList_append_x (hgd : o.guard = none) (s x : Operand) (t : TypeId)
    (ho : o.op = .call { callee := .builtin .append, args := #[s, x], argTypes := #[t, t] })
    (e : TypeId) (z : Value) (bytes : Nat) (ht : P.underlying t = some (.slice e)) (hi : (P.info? e).map (fun i => (i.zero, i.size, i.bytes)) = some (some z, K.k, bytes)) (hzs : z.cells.size = K.k)
    (B : Nat) (A : Option Addr) (n c : Nat) (bs : List β) (hs : a.eval s = .slice A n c) (hown : OwnX K e B w A n c bs)
    (y : α) (b : β) (hrel : K.rel w y b) (hoff : ∀ q ∈ K.blk y, some q ≠ (Value.slice A n c).ownBlock) (ad : Addr) (m : Nat) (hx : a.eval x = .slice (some ad) 1 m) (hnews : ∀ j u, (K.enc y)[j]? = some u → w.cell? (ad.add j) = some u)
    (hbytes : (n + 1) * bytes ≤ 140737488355328) (hn : n + 1 ≤ 4611686018427387904) (hbase : B ≤ w.heap.size)
    (h : ∀ A' c' w', OwnX K e B w' A' (n + 1) c' (bs ++ [b]) → w.grownBy w' (Value.slice A n c).ownBlock → Below B w w' → wpList P ops Q rest (a.put o.dst (.slice A' (n + 1) c')) w') : wpList P ops Q (o :: rest) a w := by
  obtain ⟨xs0, h1, h2, h3⟩ := hown
  obtain ⟨i, hi0, hz0, hz1, hz2⟩ := info_parts hi
  refine wpList_append_own_at w hgd s x t ho B e i z K.k bytes ht hi0 hz0 hz1 hz2 hzs K.pos (.slice A n c) n (xs0.flatMap K.enc) hs h1.row ad 1 m (K.enc y) hx (by rw [K.len]; omega) hnews (K.one y)
    (by unfold maxLen; omega) hbytes hbase ?_
  intro v' w' hv hg _ hloc
  have hgB : Below B w w' := (Below.refl _ _).grown hg hbase h1.above
  rcases hv.2 with ⟨_, h0⟩ | ⟨g, cap, cur, rfl, hr⟩
  · omega
  · refine h _ _ w' ⟨xs0 ++ [y], ⟨by simpa using ⟨hv.1, Or.inr ⟨g, cap, cur, rfl, hr⟩⟩, by simp [h1.len]⟩, (h2.keep hg h3).snoc (K.keep hrel hg hoff), ?_⟩ hg hgB
    intro a' ha' q hq
    rcases List.mem_append.1 ha' with hm | hm
    · rcases hloc with hl | hl
      · rw [hl]; exact h3 a' hm q hq
      · rw [hl]; intro e1; injection e1 with e1; have := h2.lt a' hm q hq; omega
    · obtain rfl : a' = y := by simpa using hm
      rcases hloc with hl | hl
      · rw [hl]; exact hoff q hq
      · rw [hl]; intro e1; injection e1 with e1; have := K.lt hrel q hq; omega
end
/-- The head of a slice as one cell. -/
def encH (h : Option Addr × Nat × Nat) : List Value := [.slice h.1 h.2.1 h.2.2]
theorem encH_len (x : Option Addr × Nat × Nat) : (encH x).length = 1 := rfl
theorem encH_one : ∀ y, ∀ u ∈ encH y, u.oneCell' = true := by intro y u hu; simp [encH] at hu; subst hu; rfl
/-- The block in which a slice's elements lie. -/
def blkH (h : Option Addr × Nat × Nat) : List Nat := if h.2.1 = 0 then [] else match h.1 with
  | some a => [a.block]
  | none => []
theorem Rd.grown {α : Type} {enc : α → List Value} {k : Nat} {w w' : World} {h : Option Addr × Nat × Nat} {l : List α} {row : Option Nat} (g : Rd enc k w h.1 h.2.1 l) (hg : w.grownBy w' row) (hr : ∀ q ∈ blkH h, some q ≠ row) : Rd enc k w' h.1 h.2.1 l :=
  ⟨g.1, fun hn => by
    obtain ⟨b, o, e, hb, hc⟩ := g.2 hn
    have hq : some b ≠ row := hr b (by unfold blkH; rw [if_neg (by omega), e]; simp)
    refine ⟨b, o, e, Nat.lt_of_lt_of_le hb hg.size, fun i x hi j u hu => ?_⟩
    have hbl := hg.block b hb hq
    have h0 := hc i x hi j u hu
    rw [← h0]
    exact World.cell?_of_block hbl⟩
theorem Rd.blk_lt {α : Type} {enc : α → List Value} {k : Nat} {w : World} {h : Option Addr × Nat × Nat} {l : List α} (g : Rd enc k w h.1 h.2.1 l) : ∀ q ∈ blkH h, q < w.heap.size := by
  intro q hq
  unfold blkH at hq
  split at hq
  · cases hq
  · obtain ⟨b, o, e, hb, _⟩ := g.2 (by omega)
    rw [e] at hq
    simp at hq
    omega
/-- Patterns as elements: each a slice of cells, no longer than its room. -/
def ekC : EK (Option Addr × Nat × Nat) (List (Int × Int × Int)) where
  enc := encH
  k := 1
  len := encH_len
  one := encH_one
  pos := by omega
  rel w h l := Rd encC 3 w h.1 h.2.1 l ∧ h.2.1 ≤ h.2.2
  blk := blkH
  keep h hg hr := ⟨h.1.grown hg hr, h.2⟩
  lt h := h.1.blk_lt
/-- The element at i of a list of patterns. -/
theorem RdX.pat {w : World} {A : Option Addr} {n : Nat} {ls : List (List (Int × Int × Int))} (g : RdX ekC w A n ls) {i : Nat} (hi : i < n) : ∃ E m c l b o, Hid (ls[i]? = some l) ∧ A = some ⟨b, o, none⟩ ∧ b < w.heap.size ∧ w.cell? ⟨b, o + i, none⟩ = some (.slice E m c) ∧ Rd encC 3 w E m l ∧ m ≤ c := by
  obtain ⟨x, l, b, o, h1, h2, h3, h4, h5⟩ := g.elem hi
  exact ⟨x.1, x.2.1, x.2.2, l, b, o, h1, h2, h3, by simpa [ekC, encH] using h4 0 _ rfl, h5.1, h5.2⟩
/-- A slice of the call's own from base B on lies in no block of a slice from an elder base. -/
theorem Own.off {α : Type} {enc : α → List Value} {k : Nat} {e : TypeId} {B n c : Nat} {w : World} {A : Option Addr} {l : List α} (h : Own enc k e B w A n c l) {b : Option Nat} (hb : ∀ q, b = some q → q < B) : ∀ q ∈ blkH (A, n, c), some q ≠ b := by
  intro q hq e1
  unfold blkH at hq
  split at hq
  · cases hq
  · cases A with
    | none => simp at hq
    | some a =>
      simp at hq
      rcases h.row.2 with ⟨h0, _⟩ | ⟨g, cap, cur, hv, hg, _⟩
      · cases h0
      · injection hv with hA _ _
        injection hA with hA
        subst hA
        simp only at hq
        have := hb q e1.symm
        omega
end Go.Proofs.YtellglbmbocgkaaGreatDoor
end
section
namespace Go.Proofs.YtellglbmbocgkaaGreatDoor
open Go Go.RowKit
def encN (a : Int × Option Addr × Nat × Nat) : List Value := [.int .i64 a.1, .slice a.2.1 a.2.2.1 a.2.2.2]
theorem encN_len (x : Int × Option Addr × Nat × Nat) : (encN x).length = 2 := rfl
theorem encN_one : ∀ y, ∀ u ∈ encN y, u.oneCell' = true := by
  intro y u hu
  simp [encN] at hu
  rcases hu with rfl | rfl <;> rfl
/-- Nodes as elements. -/
def ekN : EK (Int × Option Addr × Nat × Nat) (Int × List Int) where
  enc := encN
  k := 2
  len := encN_len
  one := encN_one
  pos := by omega
  rel w a x := a.1 = x.1 ∧ Rd encI 1 w a.2.1 a.2.2.1 x.2 ∧ a.2.2.1 ≤ a.2.2.2
  blk a := blkH a.2
  keep h hg hr := ⟨h.1, h.2.1.grown hg hr, h.2.2⟩
  lt h := h.2.1.blk_lt
/-- The node at i. -/
theorem RdX.node {w : World} {A : Option Addr} {n : Nat} {ls : List (Int × List Int)} (g : RdX ekN w A n ls) {i : Nat} (hi : i < n) : ∃ lv nx E m c b o, Hid (ls[i]? = some (lv, nx)) ∧ A = some ⟨b, o, none⟩ ∧ b < w.heap.size ∧ w.cell? ⟨b, o + i * 2, none⟩ = some (.int .i64 lv) ∧ w.cell? ⟨b, o + i * 2 + 1, none⟩ = some (.slice E m c) ∧ Rd encI 1 w E m nx ∧ m ≤ c := by
  obtain ⟨x, l, b, o, h1, h2, h3, h4, h5, h6, h7⟩ := g.elem hi
  obtain ⟨lv, nx⟩ := l
  simp only at h5 h6
  refine ⟨lv, nx, x.2.1, x.2.2.1, x.2.2.2, b, o, h1, h2, h3, ?_, ?_, h6, h7⟩
  · have := h4 0 (.int .i64 x.1) rfl
    rw [h5] at this
    exact this
  · exact h4 1 (.slice x.2.1 x.2.2.1 x.2.2.2) rfl
end Go.Proofs.YtellglbmbocgkaaGreatDoor
end
section
namespace Go.Proofs.YtellglbmbocgkaaGreatDoor
open Go Go.RowKit Go.Sort
variable {α : Type} [Inhabited α]
theorem get!_of {l : List α} {i : Nat} {x : α} (h : l[i]? = some x) : l.toArray[i]! = x := by
  have hi := (List.getElem?_eq_some_iff.1 h).1
  have e := (List.getElem?_eq_some_iff.1 h).2
  rw [getElem!_pos _ i (by simpa using hi)]
  simpa using e
theorem flatK_flatMap {enc : α → List Value} {k : Nat} (hk : ∀ x, (enc x).length = k) (hk0 : 0 < k) (l : List α) : (flatK enc k l.toArray).toList = l.flatMap enc := by
  apply List.ext_getElem?
  intro t
  by_cases ht : t < l.length * k
  · have h1 := get_flatK enc k l.toArray t (by simpa using ht)
    have hs : t < (flatK enc k l.toArray).size := by simpa using ht
    rw [getElem!_pos _ t hs] at h1
    rw [Array.getElem?_toList, Array.getElem?_eq_getElem hs, h1]
    have hq : t / k < l.length := (Nat.div_lt_iff_lt_mul hk0).2 ht
    have hr : t % k < k := Nat.mod_lt _ hk0
    have e1 : l[t / k]? = some l[t / k] := List.getElem?_eq_getElem hq
    rw [get!_of e1]
    have e2 : (enc l[t / k])[t % k]? = some ((enc l[t / k])[t % k]'(by rw [hk]; exact hr)) := List.getElem?_eq_getElem (by rw [hk]; exact hr)
    have h2 := flatMap_get hk l (t / k) _ e1 (t % k) _ e2
    rw [Nat.mul_comm, Nat.div_add_mod] at h2
    rw [h2, getElem!_pos _ _ (by rw [hk]; exact hr)]
  · rw [List.getElem?_eq_none (by simp; omega), List.getElem?_eq_none (by rw [flatMap_len hk]; omega)]
section
variable {enc : α → List Value} {k : Nat} {e : TypeId} {B : Nat} {w : World} {g n c : Nat} {l : List α}
omit [Inhabited α] in
theorem own_block (h : Own enc k e B w (some ⟨g, 0, none⟩) n c l) : ∃ cur, w.heap[g]? = some (.cells cur e (0, 0)) ∧ B ≤ g ∧ n ≤ c ∧ c ≤ maxLen ∧ cur.size = c * k ∧ cur.toList.take (n * k) = l.flatMap enc := by
  rcases h.row.2 with ⟨h0, _⟩ | ⟨g', cap, cur, hv, hg, hh, h1, h2, h3, h4⟩
  · cases h0
  · injection hv with hA _ hc
    injection hA with hA
    injection hA with hA
    subst hA; subst hc
    exact ⟨cur, hh, hg, h1, h2, h3, h4⟩
omit [Inhabited α] in
theorem own_lt (h : Own enc k e B w (some ⟨g, 0, none⟩) n c l) : B ≤ g ∧ g < w.heap.size := by
  obtain ⟨cur, hh, hg, _⟩ := own_block h
  exact ⟨hg, (Array.getElem?_eq_some_iff.1 hh).1⟩
theorem own_holdsK (hk : ∀ x, (enc x).length = k) (hk0 : 0 < k) (h : Own enc k e B w (some ⟨g, 0, none⟩) n c l) : HoldsK enc k w g 0 l.toArray := by
  obtain ⟨cur, hh, hg, h1, h2, h3, h4⟩ := own_block h
  intro j hj
  have hj' : j < n * k := by simpa [← h.len] using hj
  have hf := flatK_flatMap hk hk0 l
  refine ⟨?_, by simp [World.frozen?, hh]⟩
  rw [Nat.zero_add, cell_of_row w g j cur e (0, 0) hh]
  have e1 : (cur.toList.take (n * k))[j]? = (flatK enc k l.toArray).toList[j]? := by rw [h4, hf]
  rw [List.getElem?_take, if_pos hj', Array.getElem?_toList, Array.getElem?_toList, Array.getElem?_eq_getElem hj] at e1
  rw [e1, getElem!_pos _ j hj]; rfl
theorem own_sorted (hk : ∀ x, (enc x).length = k) (hk0 : 0 < k) (h : Own enc k e B w (some ⟨g, 0, none⟩) n c l) {l' : List α} (hl : l'.length = n) (m : Nat) (os : Array Obj) :
    Own enc k e B (sortWorldK enc k w g 0 m l'.toArray os) (some ⟨g, 0, none⟩) n c l' := by
  obtain ⟨cur, hh, hg, h1, h2, h3, h4⟩ := own_block h
  have hlt := (Array.getElem?_eq_some_iff.1 hh).1
  have hf := flatK_flatMap hk hk0 l'
  have hle : n * k ≤ c * k := Nat.mul_le_mul_right k h1
  refine ⟨⟨by rw [flatMap_len hk, hl], .inr ⟨g, c, putCells id 0 (flatK enc k l'.toArray) cur, rfl, hg, ?_, h1, h2, by simpa [putCells] using h3, ?_⟩⟩, hl⟩
  · unfold sortWorldK grow
    rw [Array.getElem?_append_left (by simpa [putRowK, putRow, mapBlock, Sort.ahead] using hlt)]
    simp [putRowK, putRow, mapBlock, Sort.ahead, Array.getElem?_modify, hh, onCells]
  · rw [← hf]
    apply List.ext_getElem?
    intro j
    rw [List.getElem?_take, Array.getElem?_toList, Array.getElem?_toList]
    by_cases hj : j < n * k
    · have hjc : j < cur.size := by omega
      have hjf : j < (flatK enc k l'.toArray).size := by simpa [hl] using hj
      rw [if_pos hj]
      simp only [putCells, Array.getElem?_mapIdx, Array.getElem?_eq_getElem hjc, Option.map_some]
      rw [if_pos ⟨Nat.zero_le _, by simpa using hjf⟩, Nat.sub_zero, getElem!_pos _ j hjf, Array.getElem?_eq_getElem hjf]; rfl
    · rw [if_neg hj, Array.getElem?_eq_none (by simp [hl]; omega)]
theorem below_sorted {B : Nat} (d : Array α) (hg : B ≤ g) (hgl : g < w.heap.size) (m : Nat) (os : Array Obj) : Below B w (sortWorldK enc k w g 0 m d os) :=
  ⟨rfl, rfl, rfl, by simp [sortWorldK, grow, putRowK, putRow, mapBlock, Sort.ahead], fun i hi => by
    unfold sortWorldK grow
    have hlt : i < w.heap.size := by omega
    rw [Array.getElem?_append_left (by simpa [putRowK, putRow, mapBlock, Sort.ahead] using hlt)]
    simp [putRowK, putRow, mapBlock, Sort.ahead, Array.getElem?_modify, show g ≠ i by omega]⟩
end
/-- What the sort leaves, as lists. -/
theorem sorted_list {lt : α → α → Bool} {l : List α} {d' : Array α} (hp : PermIn 0 l.toArray.size l.toArray d') (hs : SortedIn lt 0 l.toArray.size d') : ∃ l' : List α, d' = l'.toArray ∧ l'.Perm l ∧ l'.Pairwise fun a b => lt b a = false := by
  refine ⟨d'.toList, by simp, ?_, ?_⟩
  · have h := hp.2.2
    have hz := hp.1
    rw [← hz] at h
    simp only [List.size_toArray, hz] at h
    have e1 : d'.extract 0 d'.size = d' := by simp
    have hz' : d'.size = l.length := by simpa using hz
    rw [← hz', e1] at h
    rw [show (l.toArray.extract 0 d'.size) = l.toArray by rw [hz']; simp] at h
    simpa using h
  · rw [List.pairwise_iff_getElem]
    intro i j hi hj hij
    have hz : d'.size = l.length := by simpa using hp.1
    have h := hs i j (Nat.zero_le _) hij (by simpa [hz] using hj)
    rw [getElem!_pos d' j (by simpa using hj), getElem!_pos d' i (by simpa using hi)] at h
    simpa using h
end Go.Proofs.YtellglbmbocgkaaGreatDoor
end
section
namespace Go.Proofs.YtellglbmbocgkaaGreatDoor
open Go Go.RowKit
section
variable {B : Nat} {e : TypeId} {w : World} {g n c : Nat}
theorem flatMap_set {α : Type} {enc : α → List Value} {k : Nat} (hk : ∀ x, (enc x).length = k) : ∀ (l : List α) (i : Nat) (y : α), i < l.length → (l.set i y).flatMap enc = (l.flatMap enc).take (i * k) ++ enc y ++ (l.flatMap enc).drop (i * k + k)
  | [], i, y, h => by simp at h
  | x :: l, 0, y, _ => by
    simp only [List.set_cons_zero, List.flatMap_cons, Nat.zero_mul, List.take_zero, List.nil_append, Nat.zero_add]
    rw [List.drop_left' (hk x)]
  | x :: l, i + 1, y, h => by
    have ih := flatMap_set hk l i y (by simpa using h)
    simp only [List.set_cons_succ, List.flatMap_cons]
    have e1 : (enc x ++ l.flatMap enc).take ((i + 1) * k) = enc x ++ (l.flatMap enc).take (i * k) := by
      rw [List.take_append, List.take_of_length_le (by rw [hk, Nat.add_mul]; omega), hk, Nat.add_mul, Nat.one_mul, Nat.add_sub_cancel]
    have e2 : (enc x ++ l.flatMap enc).drop ((i + 1) * k + k) = (l.flatMap enc).drop (i * k + k) := by
      rw [List.drop_append, List.drop_of_length_le (by rw [hk, Nat.add_mul]; omega), hk, Nat.add_mul, Nat.one_mul, Nat.add_sub_cancel, List.nil_append]
    rw [ih, e1, e2]
    simp [List.append_assoc]
theorem own_cells {α : Type} {enc : α → List Value} {k : Nat} (hk : ∀ x, (enc x).length = k) {l : List α} (h : Own enc k e B w (some ⟨g, 0, none⟩) n c l) {j : Nat} (hj : j < n * k) : w.cell? ⟨g, j, none⟩ = (l.flatMap enc)[j]? ∧ w.frozen? ⟨g, j, none⟩ = false :=
  ⟨h.row.cellAt j hj, h.row.frozenAt j⟩
theorem own_stored {α : Type} {enc : α → List Value} {k : Nat} {l l' : List α} (h : Own enc k e B w (some ⟨g, 0, none⟩) n c l) (j : Nat) (u : Value) (hl : l'.length = n) (he : (l.flatMap enc).set j u = l'.flatMap enc) : Own enc k e B (w.setCell ⟨g, j, none⟩ u) (some ⟨g, 0, none⟩) n c l' := by
  have := (h.row.stored j u).1
  rw [he] at this
  exact ⟨this, hl⟩
theorem own_setI {l : List Int} (h : Own encI 1 e B w (some ⟨g, 0, none⟩) n c l) {i : Nat} (hi : i < n) (x : Int) : Own encI 1 e B (w.setCell ⟨g, i, none⟩ (.int .i64 x)) (some ⟨g, 0, none⟩) n c (l.set i x) := by
  have hl : i < l.length := by rw [h.len]; exact hi
  refine own_stored h i _ (by simp [h.len]) ?_
  rw [flatMap_set encI_len l i x hl]
  have hz : i < (l.flatMap encI).length := by rw [flatMap_len encI_len]; omega
  rw [List.set_eq_take_append_cons_drop, if_pos hz]
  simp [encI]
end
end Go.Proofs.YtellglbmbocgkaaGreatDoor
end
section
namespace Go.Proofs.YtellglbmbocgkaaGreatDoor
open Go Go.RowKit
/-- All that lay in W lies in w' as it did. -/
structure FrW (W w' : World) : Prop where
  below : Below W.heap.size W w'
section
variable {W w w' : World} {b b2 : Nat} {x y z u v : Value}
theorem FrW.here (W : World) : FrW W W := ⟨Below.refl _ _⟩
theorem FrW.drew (h : FrW W w) : FrW W w.drew := ⟨h.below.drew⟩
theorem FrW.alloc (h : FrW W w) (o : Obj) : FrW W (w.alloc o) := ⟨h.below.alloc h.below.size o⟩
theorem FrW.then (h : FrW W w) (hb : Below W.heap.size w w') : FrW W w' := ⟨h.below.trans hb⟩
theorem FrW.of (h : FrW W w) (hb : Below w.heap.size w w') : FrW W w' := ⟨h.below.trans (hb.mono h.below.size)⟩
end
end Go.Proofs.YtellglbmbocgkaaGreatDoor
end
section
namespace Go.Proofs.YtellglbmbocgkaaGreatDoor
open Go Go.RowKit
theorem wpList_append_elL {α : Type} {P : Program} {w : World} {ops : Array Oper} {rest : List Oper} {o : Oper} {a : Act} {Q : Exit → Act → World → Prop} (hgd : o.guard = none) (s x : Operand) (t : TypeId)
    (ho : o.op = .call { callee := .builtin .append, args := #[s, x], argTypes := #[t, t] })
    (enc : α → List Value) (k : Nat) (e : TypeId) (z : Value) (bytes : Nat) (ht : P.underlying t = some (.slice e)) (hi : (P.info? e).map (fun i => (i.zero, i.size, i.bytes)) = some (some z, k, bytes)) (hzs : z.cells.size = k) (hk0 : 0 < k)
    (hk : ∀ y, (enc y).length = k) (h1c : ∀ y, ∀ u ∈ enc y, u.oneCell' = true)
    (B : Nat) (A : Option Addr) (n c : Nat) (l : List α) (hs : a.eval s = .slice A n c) (hown : Own enc k e B w A n c l)
    (y : α) (ad : Addr) (m : Nat) (hx : a.eval x = .slice (some ad) 1 m) (hnews : ∀ j u, (enc y)[j]? = some u → w.cell? (ad.add j) = some u)
    (hbytes : (n + 1) * bytes ≤ 140737488355328) (hn : n + 1 ≤ 4611686018427387904) (hbase : B ≤ w.heap.size)
    (h : ∀ A' c' w', Own enc k e B w' A' (n + 1) c' (l ++ [y]) → w.grownBy w' (Value.slice A n c).ownBlock → Below B w w' → ((Value.slice A' (n + 1) c').ownBlock = (Value.slice A n c).ownBlock ∨ (Value.slice A' (n + 1) c').ownBlock = some w.heap.size) → wpList P ops Q rest (a.put o.dst (.slice A' (n + 1) c')) w') : wpList P ops Q (o :: rest) a w := by
  obtain ⟨i, hi0, hz0, hz1, hz2⟩ := info_parts hi
  refine wpList_append_own_at w hgd s x t ho B e i z k bytes ht hi0 hz0 hz1 hz2 hzs hk0 (.slice A n c) n (l.flatMap enc) hs hown.row ad 1 m (enc y) hx (by rw [hk]; omega) hnews (h1c y)
    (by unfold maxLen; omega) hbytes hbase ?_
  intro v' w' hv hg _ hloc
  have hgB : Below B w w' := (Below.refl _ _).grown hg hbase hown.above
  rcases hv.2 with ⟨_, h0⟩ | ⟨g, cap, cur, rfl, hr⟩
  · omega
  · exact h _ _ w' ⟨by simpa using ⟨hv.1, Or.inr ⟨g, cap, cur, rfl, hr⟩⟩, by simp [hown.len]⟩ hg hgB hloc
/-- The row of the slice is not the block b. -/
def OffB (A : Option Addr) (n c b : Nat) : Prop := ∀ g, (Value.slice A n c).ownBlock = some g → g ≠ b
theorem OffB.ne {A : Option Addr} {n c b : Nat} (h : OffB A n c b) : some b ≠ (Value.slice A n c).ownBlock := fun e => h b e.symm rfl
theorem OffB.lt {α : Type} {enc : α → List Value} {k : Nat} {e : TypeId} {B n c b : Nat} {w : World} {A : Option Addr} {l : List α} (h : Own enc k e B w A n c l) (hb : w.heap.size ≤ b) : OffB A n c b := fun g hg e => by have := (h.row.lt g hg).2; omega
theorem OffB.below {α : Type} {enc : α → List Value} {k : Nat} {e : TypeId} {B n c b : Nat} {w : World} {A : Option Addr} {l : List α} (h : Own enc k e B w A n c l) (hb : b < B) : OffB A n c b := fun g hg e => by have := h.above g hg; omega
theorem OffB.step {A A' : Option Addr} {n c n' c' b s : Nat} (h : OffB A n c b) (hl : (Value.slice A' n' c').ownBlock = (Value.slice A n c).ownBlock ∨ (Value.slice A' n' c').ownBlock = some s) (hb : b < s) : OffB A' n' c' b := fun g hg e => by
  rcases hl with hl | hl
  · exact h g (by rw [← hl]; exact hg) e
  · rw [hl] at hg; injection hg with hg; omega
end Go.Proofs.YtellglbmbocgkaaGreatDoor
end
section
namespace Go.Proofs.YtellglbmbocgkaaGreatDoor
open Go Go.RowKit
set_option maxRecDepth 100000
theorem made_cells (n : Nat) : madeCells #[(.int .i64 0 : Value)] n = ((List.replicate n (0 : Int)).flatMap encI).toArray := by
  apply Array.ext'
  have e : ∀ n : Nat, (List.replicate n (0 : Int)).flatMap encI = List.replicate n (.int .i64 0) := by
    intro n
    induction n with
    | zero => rfl
    | succ n ih => rw [List.replicate_succ, List.flatMap_cons, ih, List.replicate_succ]; rfl
  rw [e]
  apply List.ext_getElem?
  intro i
  simp only [madeCells, List.getElem?_replicate]
  by_cases hi : i < n
  · simp [hi, Nat.mod_one]
  · simp [hi]
theorem own_made (w : World) (e : TypeId) (B : Nat) (hB : B ≤ w.heap.size) (n : Nat) (hm : n ≤ 4611686018427387904) : Own encI 1 e B (w.alloc (.cells (madeCells #[.int .i64 0] n) e)) (some ⟨w.heap.size, 0, none⟩) n n (List.replicate n 0) := by
  rw [made_cells]
  exact Own.lit encI_len w e B hB (List.replicate n 0) n (by simp) hm _ rfl
theorem run_make_ints {t : TypeId} (ht : Tryz.prog.underlying t = some (.slice 3)) (n : Nat) (hn : n ≤ 1000000) (w : World) : (Instr.makeSlice t (.int .i64 (n : Int)) (.int .i64 (n : Int))).run Tryz.prog w = .ok (.slice (some ⟨w.heap.size, 0, none⟩) n n) (w.alloc (.cells (madeCells #[.int .i64 0] n) 3)) :=
  run_make_row' t 3 (.int .i64 0) 8 ht (by kernel_rfl) rfl .i64 .i64 n (by omega) (by omega) w
end Go.Proofs.YtellglbmbocgkaaGreatDoor
end
section
namespace Go.Proofs.YtellglbmbocgkaaGreatDoor
open Go Go.RowKit
/-- The slice reads as the pattern l, is no longer than its room, and lies in blocks from B on. -/
structure NewP (B : Nat) (w : World) (A : Option Addr) (n c : Nat) (l : List (Int × Int × Int)) : Prop where
  rd : Rd encC 3 w A n l
  cap : n ≤ c
  loc : ∀ q ∈ blkH (A, n, c), B ≤ q
theorem NewP.nil_ {B : Nat} {w : World} : NewP B w none 0 0 [] := ⟨Rd.nil_, Nat.le_refl _, fun q hq => by simp [blkH] at hq⟩
theorem NewP.own {e : TypeId} {B n c : Nat} {w : World} {A : Option Addr} {l : List (Int × Int × Int)} (h : Own encC 3 e B w A n c l) : NewP B w A n c l := by
  refine ⟨h.rd encC_len, ?_, fun q hq => ?_⟩
  · rcases h.row.2 with ⟨h0, _⟩ | ⟨g, cap, cur, hv, hg, hh, h1, r⟩
    · injection h0 with _ e1 e2; omega
    · injection hv with _ e1 e2; omega
  · unfold blkH at hq
    split at hq
    · cases hq
    · cases A with
      | none => simp at hq
      | some a =>
        simp at hq
        rcases h.row.2 with ⟨h0, _⟩ | ⟨g, cap, cur, hv, hg, _⟩
        · cases h0
        · injection hv with hA _ _
          injection hA with hA
          subst hA
          simp only at hq
          omega
theorem NewP.of {B n c : Nat} {w w' : World} {A : Option Addr} {l : List (Int × Int × Int)} (h : NewP B w A n c l) (hb : Below w.heap.size w w') : NewP B w' A n c l := ⟨h.rd.of hb, h.cap, h.loc⟩
theorem NewP.more {B B' n c : Nat} {w : World} {A : Option Addr} {l : List (Int × Int × Int)} (h : NewP B w A n c l) (hB : B' ≤ B) : NewP B' w A n c l := ⟨h.rd, h.cap, fun q hq => Nat.le_trans hB (h.loc q hq)⟩
theorem NewP.off {B n c : Nat} {w : World} {A : Option Addr} {l : List (Int × Int × Int)} (h : NewP B w A n c l) {b : Option Nat} (hb : ∀ q, b = some q → q < B) : ∀ q ∈ blkH (A, n, c), some q ≠ b := fun q hq e => by
  have h1 := h.loc q hq
  have h2 := hb q e.symm
  omega
end Go.Proofs.YtellglbmbocgkaaGreatDoor
end
section
namespace Go.Proofs.YtellglbmbocgkaaGreatDoor
open Go Go.RowKit
theorem run_append_twin {P : Program} (w : World) (t t' e ty : TypeId) (ht : P.underlying t = some (.slice e)) (ht' : P.underlying t' = some (.slice e)) (u v : Value) : (Builtin.append_ #[t, t'] ty #[u, v]).run P w = (Builtin.append_ #[t, t] ty #[u, v]).run P w := by
  cases u <;> simp [Builtin.append_, run_underlying ht, run_underlying ht', Sem.run_bind]
end Go.Proofs.YtellglbmbocgkaaGreatDoor
end
section
namespace Go.Proofs.YtellglbmbocgkaaGreatDoor
open Go Go.RowKit
section
variable {α : Type} {enc : α → List Value} {k : Nat} {w : World} {m : Nat} {ys : List α}
theorem rd_cells {ad : Addr} (h : Rd enc k w (some ad) m ys) (hk : ∀ x, (enc x).length = k) (hk0 : 0 < k) : ∀ j u, (ys.flatMap enc)[j]? = some u → w.cell? (ad.add j) = some u := by
  intro j u hu
  have hj := (List.getElem?_eq_some_iff.1 hu).1
  rw [flatMap_len hk, h.len] at hj
  have hi : j / k < m := Nat.div_lt_of_lt_mul (by rw [Nat.mul_comm]; exact hj)
  obtain ⟨x, b, o, hx, e, hb, hcell⟩ := h.elem hi
  injection e with e
  subst e
  have hr : j % k < k := Nat.mod_lt _ hk0
  have e1 : (enc x)[j % k]? = some ((enc x)[j % k]'(by rw [hk]; exact hr)) := List.getElem?_eq_getElem _
  have e2 := flatMap_get hk ys (j / k) x hx (j % k) _ e1
  have e0 : j / k * k + j % k = j := by rw [Nat.mul_comm]; exact Nat.div_add_mod j k
  rw [e0, hu] at e2
  injection e2 with e2
  have h3 := hcell (j % k) _ e1
  rw [show o + j / k * k + j % k = o + j by omega] at h3
  have ha : (⟨b, o, none⟩ : Addr).add j = ⟨b, o + j, none⟩ := by unfold Addr.add; split <;> simp_all
  rw [ha, h3, e2]
end
theorem run_append_els {α : Type} {P : Program} (w : World) (t t' e ty : TypeId) (enc : α → List Value) (k : Nat) (z : Value) (bytes : Nat) (ht : P.underlying t = some (.slice e)) (ht' : P.underlying t' = some (.slice e)) (hi : (P.info? e).map (fun i => (i.zero, i.size, i.bytes)) = some (some z, k, bytes)) (hzs : z.cells.size = k) (hk0 : 0 < k)
    (hk : ∀ y, (enc y).length = k) (h1c : ∀ y, ∀ u ∈ enc y, u.oneCell' = true) (B : Nat) (A : Option Addr) (n c : Nat) (l : List α) (hown : Own enc k e B w A n c l)
    (A' : Option Addr) (m c' : Nat) (ys : List α) (hR : Rd enc k w A' m ys) (hbytes : (n + m) * bytes ≤ 140737488355328) (hn : n + m ≤ 4611686018427387904) (hbase : B ≤ w.heap.size) :
    ∃ A2 c2 w', (Builtin.append_ #[t, t'] ty #[.slice A n c, .slice A' m c']).run P w = .ok (.slice A2 (n + m) c2) w' ∧ Own enc k e B w' A2 (n + m) c2 (l ++ ys) ∧ w.grownBy w' (Value.slice A n c).ownBlock ∧ Below B w w' := by
  obtain ⟨i, hi0, hz0, hz1, hz2⟩ := info_parts hi
  rw [run_append_twin w t t' e ty ht ht']
  cases A' with
  | none =>
    have hm : m = 0 := by
      rcases Nat.eq_zero_or_pos m with h0 | h0
      · exact h0
      · obtain ⟨b, o, e0, _⟩ := hR.2 h0; cases e0
    subst hm
    obtain rfl : ys = [] := List.length_eq_zero_iff.1 hR.len
    refine ⟨A, c, w, ?_, by simpa using hown, World.grownBy.refl w _, Below.refl _ _⟩
    rcases hown.row.2 with ⟨h0, _⟩ | ⟨g, cap, cur, h0, _, _, hnc, _⟩
    · injection h0 with h1 h2 h3
      subst h1 h2 h3
      simp [Builtin.append_, run_underlying ht, sizeOf, typeInfo, hi0, Builtin.lenOf, Builtin.firstCells]
    · injection h0 with h1 h2 h3
      subst h1 h3
      simp [Builtin.append_, run_underlying ht, sizeOf, typeInfo, hi0, Builtin.lenOf, Builtin.firstCells, hnc, storeCells]
  | some ad =>
    obtain ⟨v', w', hr, hv, hg, _⟩ := run_append_own (P := P) w B t ty e i z k bytes ht hi0 hz0 hz1 hz2 hzs hk0 (.slice A n c) n (l.flatMap enc) hown.row ad m c' (ys.flatMap enc) (by rw [flatMap_len hk, hR.len]) (rd_cells hR hk hk0)
      (fun u hu => by obtain ⟨y, _, hy⟩ := List.mem_flatMap.1 hu; exact h1c y u hy) (by unfold maxLen; omega) hbytes hbase
    have hgB : Below B w w' := (Below.refl _ _).grown hg hbase hown.above
    have hl : (l ++ ys).length = n + m := by rw [List.length_append, hown.len, hR.len]
    rw [← List.flatMap_append] at hv
    rcases hv.2 with ⟨h0, h1⟩ | ⟨g, cap, cur, h0, hq⟩
    · exact ⟨none, 0, w', by rw [hr, h0, h1], ⟨by rw [h0] at hv; rw [h1] at hv ⊢; exact hv, hl⟩, hg, hgB⟩
    · exact ⟨_, cap, w', by rw [hr, h0], ⟨by rw [h0] at hv; exact hv, hl⟩, hg, hgB⟩
/-- append(s, x...) where s is a row of the call's own. -/
theorem wpList_append_els {α : Type} {P : Program} {w : World} {ops : Array Oper} {rest : List Oper} {o : Oper} {a : Act} {Q : Exit → Act → World → Prop} (hgd : o.guard = none) (s x : Operand) (t t' : TypeId)
    (ho : o.op = .call { callee := .builtin .append, args := #[s, x], argTypes := #[t, t'] })
    (enc : α → List Value) (k : Nat) (e : TypeId) (z : Value) (bytes : Nat) (ht : P.underlying t = some (.slice e)) (ht' : P.underlying t' = some (.slice e)) (hi : (P.info? e).map (fun i => (i.zero, i.size, i.bytes)) = some (some z, k, bytes)) (hzs : z.cells.size = k) (hk0 : 0 < k)
    (hk : ∀ y, (enc y).length = k) (h1c : ∀ y, ∀ u ∈ enc y, u.oneCell' = true)
    (B : Nat) (A : Option Addr) (n c : Nat) (l : List α) (hs : a.eval s = .slice A n c) (hown : Own enc k e B w A n c l)
    (A' : Option Addr) (m c' : Nat) (ys : List α) (hx : a.eval x = .slice A' m c') (hR : Rd enc k w A' m ys)
    (hbytes : (n + m) * bytes ≤ 140737488355328) (hn : n + m ≤ 4611686018427387904) (hbase : B ≤ w.heap.size)
    (h : ∀ A2 c2 w', Own enc k e B w' A2 (n + m) c2 (l ++ ys) → w.grownBy w' (Value.slice A n c).ownBlock → Below B w w' → wpList P ops Q rest (a.put o.dst (.slice A2 (n + m) c2)) w') : wpList P ops Q (o :: rest) a w := by
  refine wpList_plain hgd fun K hK => ?_
  obtain ⟨A2, c2, w', hr, h1, h2, h3⟩ := run_append_els (P := P) w t t' e o.type enc k z bytes ht ht' hi hzs hk0 hk h1c B A n c l hown A' m c' ys hR hbytes hn hbase
  unfold Oper.wp execOp
  simp only [ho, resolve, invoke, builtin, Sem.run_bind, Sem.run_pure, Result.andThen_ok, List.map_toArray, List.map_cons, List.map_nil, hs, hx, hr]
  exact hK _ _ (h A2 c2 w' h1 h2 h3)
end Go.Proofs.YtellglbmbocgkaaGreatDoor
end
