/- General lemmas on worlds, drawn regions and slices, over any program. No condition. A slice that reads as a list: of integers, of positions, of cells. A slice of the call's own that grows element by element. Slices whose elements lead to memory (patterns, frames): a list of things, each of which reads as a datum; such slices of the call's own, appended to. Over any program. Nodes of rule trees in memory: a level and a slice of numbers. Over any program. A region that draws its order and lays blocks of its own: whatever the order, the same comes out, but for the blocks' numbers. Over any program. A slice of the call's own, sorted in place: the bridge to the library's words on sorts. Over any program. Stores into a row of the call's own: one element, a cleared tail. Over any program. Worlds in which all that lay in an elder one lies as it did: for regions that draw their order. Over any program. Patterns that lie in new blocks. Over any program. append of one element, with the place of the new row; boxes behind an append. Over any program. -/
import Derived.WalkKit
import Derived.BigQuiet
import Derived.Deep.Draws
import Derived.Lib.Hide
import Derived.Laws.OwnMore
import Derived.Deep.AppendLies
import Derived.Maps.AppendAt
import Derived.OwnWalk
import Derived.Laws.Tables
import Derived.StillTail
import Derived.Shelf.SlSortCmp.NoneTotal
import Derived.Lib.SliceRun
set_option linter.unusedSimpArgs false
set_option linter.unusedVariables false
section
namespace Go.Proofs.YtmenokhnanghgaaGreat
open Go Go.RowKit

theorem below_after {B C : Nat} {a w1 w2 : World} (h : Below C w1 w2) (k : Below B a w1) (hBC : B ≤ C) : Below B a w2 := k.trans (h.mono hBC)
theorem below_drewN {B : Nat} {a w : World} (h : Below B a w) (n : Nat) : Below B a (w.drewN n) := ⟨h.os, h.tape, h.output, h.size, h.block⟩

def cellOf (w : World) (p : Addr) : Option Value := w.cell? p
def frozenOf (w : World) (p : Addr) : Bool := w.frozen? p
theorem bcell {B : Nat} {W w1 : World} (hb : Below B W w1) : (∀ b o, w1.cell? ⟨b, o, none⟩ = if b < B then W.cell? ⟨b, o, none⟩ else cellOf w1 ⟨b, o, none⟩) ∧ (∀ b o, w1.frozen? ⟨b, o, none⟩ = if b < B then W.frozen? ⟨b, o, none⟩ else frozenOf w1 ⟨b, o, none⟩) :=
  ⟨fun b o => by split; exact hb.cell (p := ⟨b, o, none⟩) ‹_›; rfl, fun b o => by split; exact hb.frozen (p := ⟨b, o, none⟩) ‹_›; rfl⟩
@[go_sem high] theorem cell_alloc_if (w : World) (c : Array Value) (t : TypeId) (fr : Nat × Nat) (n i : Nat) : (w.alloc (.cells c t fr)).cell? ⟨n, i, none⟩ = if n < w.heap.size then w.cell? ⟨n, i, none⟩ else if n = w.heap.size then c[i]? else none := by
  by_cases h : n < w.heap.size
  · rw [if_pos h]; exact World.cell?_of_block (heap_alloc_old w _ h)
  · rw [if_neg h]
    by_cases e : n = w.heap.size
    · subst e; rw [if_pos rfl]; unfold World.cell?; rw [show (w.alloc (.cells c t fr)).heap[(⟨w.heap.size, i, none⟩ : Addr).block]? = some (.cells c t fr) from heap_alloc_new w _]; rfl
    · rw [if_neg e]
      have : (w.alloc (.cells c t fr)).heap[n]? = none := Array.getElem?_eq_none (by simp; omega)
      simp [World.cell?, this]
@[go_sem high] theorem frozen_alloc_if (w : World) (c : Array Value) (t : TypeId) (n i : Nat) : (w.alloc (.cells c t)).frozen? ⟨n, i, none⟩ = if n < w.heap.size then w.frozen? ⟨n, i, none⟩ else false := by
  by_cases h : n < w.heap.size
  · rw [if_pos h]; exact World.frozen?_of_block (heap_alloc_old w _ h)
  · rw [if_neg h]
    by_cases e : n = w.heap.size
    · subst e; unfold World.frozen?; rw [show (w.alloc (.cells c t)).heap[(⟨w.heap.size, i, none⟩ : Addr).block]? = some (.cells c t) from heap_alloc_new w _]; simp
    · have : (w.alloc (.cells c t)).heap[n]? = none := Array.getElem?_eq_none (by simp; omega)
      simp [World.frozen?, this]

@[go_sem high] theorem cell_setCell_if (w : World) (b i b' i' : Nat) (v : Value) : (w.setCell ⟨b, i, none⟩ v).cell? ⟨b', i', none⟩ = if b = b' ∧ i = i' then (w.cell? ⟨b, i, none⟩).map (fun _ => v) else w.cell? ⟨b', i', none⟩ := by
  split
  · rename_i h
    obtain ⟨rfl, rfl⟩ := h
    cases e : w.cell? ⟨b, i, none⟩ with
    | some u => rw [World.cell?_setCell_same w _ v e]; rfl
    | none =>
      have h2 : (w.setCell ⟨b, i, none⟩ v).cell? ⟨b, i, none⟩ = none := by
        unfold World.cell? at e ⊢
        simp only [World.setCell, Array.getElem?_modify]
        cases hb : w.heap[b]? with
        | none => simp
        | some o =>
          rw [hb] at e
          cases o <;> simp_all
      rw [h2]; rfl
  · rename_i h
    exact World.cell?_setCell_other w _ _ v (fun e => h (by injection e with e1 e2; exact ⟨e1, e2⟩))

theorem cellOf_row {w : World} {b : Nat} {cs : Array Value} {t : TypeId} {fr : Nat × Nat} (h : w.heap[b]? = some (.cells cs t fr)) : ∀ i, cellOf w ⟨b, i, none⟩ = cs[i]? := fun i => by
  unfold cellOf; exact cell_of_row w b i cs t fr h
theorem frozenOf_row {w : World} {b : Nat} {cs : Array Value} {t : TypeId} (h : w.heap[b]? = some (.cells cs t (0, 0))) : ∀ i, frozenOf w ⟨b, i, none⟩ = false := fun i => by
  unfold frozenOf; exact frozen_of_row w b i cs t h
def Ext (w : World) : Type := { z : World // Below w.heap.size w z }
instance (w : World) : Nonempty (Ext w) := ⟨⟨w, Below.refl _ _⟩⟩
def Ext.world {w : World} (z : Ext w) : World := z.1
theorem Ext.below {w : World} (z : Ext w) : Below w.heap.size w z.world := z.2
@[go_sem] theorem Ext.cell {w : World} (z : Ext w) (b o : Nat) : z.world.cell? ⟨b, o, none⟩ = if b < w.heap.size then w.cell? ⟨b, o, none⟩ else cellOf z.world ⟨b, o, none⟩ := (bcell z.below).1 b o
theorem Ext.frozen {w : World} (z : Ext w) (b o : Nat) : z.world.frozen? ⟨b, o, none⟩ = if b < w.heap.size then w.frozen? ⟨b, o, none⟩ else frozenOf z.world ⟨b, o, none⟩ := (bcell z.below).2 b o
theorem Ext.size {w : World} (z : Ext w) : w.heap.size ≤ z.world.heap.size := z.below.size

theorem wp_region_ext_lit {P : Program} {id : Nat} {Q : Exit → Act → World → Prop} {a : Act} {w : World} {l : List Oper} (hm : P.follows .mixedOrders = true) (hB : Region.lexB .any l.toArray = true)
    (h : wpQuiet P l.toArray (fun w' => ∃ z : Ext w, w' = z.world) (fun a' => ∀ w', (∃ z : Ext w, w' = z.world) → Q .normal a' w') l a) : (Code.region id l.toArray true).wp P Q a w :=
  wp_region_quiet (C := fun w' => ∃ z : Ext w, w' = z.world) hm hB ⟨⟨w.drew, (Below.refl _ _).drew⟩, rfl⟩ (by simpa using h)

theorem calls_ext {P : Program} {f : FuncId} {args : Array Value} {w : World} {v : Value} {z : Ext w}
    (h : Calls P f args z.world fun e w' => e = .returned v ∧ Below z.world.heap.size z.world w') : Calls P f args z.world fun e w'' => e = .returned v ∧ ∃ z' : Ext w, w'' = z'.world :=
  h.mono fun _ w' ⟨he, hb⟩ => ⟨he, ⟨⟨w', below_after hb z.below z.below.size⟩, rfl⟩⟩
theorem calls_ext_same {P : Program} {f : FuncId} {args : Array Value} {w : World} {v : Value} {z : Ext w}
    (h : Calls P f args z.world fun e w' => e = .returned v ∧ z.world = w') : Calls P f args z.world fun e w'' => e = .returned v ∧ ∃ z' : Ext w, w'' = z'.world :=
  h.mono fun _ _ ⟨he, hb⟩ => ⟨he, ⟨z, hb.symm⟩⟩

theorem min_if (x y : Int) : (if y < x then y else x) = min x y := by split <;> omega
theorem max_if (x y : Int) : (if x < y then y else x) = max x y := by split <;> omega
section
variable {P : Program} (w : World) (ts : Array TypeId) (t : TypeId) (k k' k'' k3 : IntKind) (x y z u : Int)
@[go_sem high] theorem run_min2 : (Builtin.min_ ts t #[.int k x, .int k' y]).run P w = .ok (.int k (min x y)) w := by simp [Builtin.min_, Builtin.min2, min_if]
@[go_sem high] theorem run_max2 : (Builtin.max_ ts t #[.int k x, .int k' y]).run P w = .ok (.int k (max x y)) w := by simp [Builtin.max_, Builtin.max2, max_if]
@[go_sem high] theorem run_max3 : (Builtin.max_ ts t #[.int k x, .int k' y, .int k'' z]).run P w = .ok (.int k (max (max x y) z)) w := by simp [Builtin.max_, Builtin.max2, max_if]
@[go_sem high] theorem run_max4 : (Builtin.max_ ts t #[.int k x, .int k' y, .int k'' z, .int k3 u]).run P w = .ok (.int k (max (max (max x y) z) u)) w := by simp [Builtin.max_, Builtin.max2, max_if]
@[go_sem high] theorem run_max5 (v : Int) : (Builtin.max_ ts t #[.int k x, .int k' y, .int k'' z, .int k3 u, .int k3 v]).run P w = .ok (.int k (max (max (max (max x y) z) u) v)) w := by simp [Builtin.max_, Builtin.max2, max_if]
end
theorem tf {P : Prop} (h : true = false) : P := by cases h
theorem ret_int {k : IntKind} {a b : Int} (h : a = b) : Ending.returned (.int k a) = .returned (.int k b) := by rw [h]
theorem ret_bool {a b : Bool} (h : a = b) : Ending.returned (.bool a) = .returned (.bool b) := by rw [h]
end Go.Proofs.YtmenokhnanghgaaGreat
end
section
namespace Go.Proofs.YtmenokhnanghgaaGreat
open Go Go.RowKit

def encI (x : Int) : List Value := [.int .i64 x]
def encP (p : Int × Int) : List Value := [.int .i64 p.1, .int .i64 p.2]
def encC (c : Int × Int × Int) : List Value := [.int .i64 c.1, .int .i64 c.2.1, .int .i64 c.2.2]

/-- The slice value '.slice A n c' reads as the list l in the world w: each element lies as 'enc' says, k cells. -/
def Rd {α : Type} (enc : α → List Value) (k : Nat) (w : World) (A : Option Addr) (n : Nat) (l : List α) : Prop :=
  l.length = n ∧ (0 < n → ∃ b o, A = some ⟨b, o, none⟩ ∧ b < w.heap.size ∧ ∀ (i : Nat) (x : α), l[i]? = some x → ∀ (j : Nat) (u : Value), (enc x)[j]? = some u → w.cell? ⟨b, o + i * k + j, none⟩ = some u)

section
variable {α : Type} {enc : α → List Value} {k : Nat} {w w' : World} {A : Option Addr} {n : Nat} {l : List α}
theorem Rd.nil_ : Rd enc k w A 0 [] := ⟨rfl, fun h => absurd h (by omega)⟩
theorem Rd.keep (h : Rd enc k w A n l) (hs : w.heap.size ≤ w'.heap.size) (hk : ∀ b o, b < w.heap.size → w'.cell? ⟨b, o, none⟩ = w.cell? ⟨b, o, none⟩) : Rd enc k w' A n l :=
  ⟨h.1, fun hn => by
    obtain ⟨b, o, e, hb, hc⟩ := h.2 hn
    exact ⟨b, o, e, by omega, fun i x hi j u hu => (hk _ _ hb).trans (hc i x hi j u hu)⟩⟩
theorem Rd.of (h : Rd enc k w A n l) (hb : Below w.heap.size w w') : Rd enc k w' A n l := h.keep hb.size fun _ _ hlt => hb.cell (p := ⟨_, _, none⟩) hlt
theorem Rd.drew (h : Rd enc k w A n l) : Rd enc k w.drew A n l := h
theorem Rd.len (h : Rd enc k w A n l) : l.length = n := h.1
theorem Rd.elem (h : Rd enc k w A n l) {i : Nat} (hi : i < n) : ∃ x b o, l[i]? = some x ∧ A = some ⟨b, o, none⟩ ∧ b < w.heap.size ∧ ∀ (j : Nat) (u : Value), (enc x)[j]? = some u → w.cell? ⟨b, o + i * k + j, none⟩ = some u := by
  obtain ⟨b, o, e, hb, hc⟩ := h.2 (by omega)
  have hl : i < l.length := by rw [h.1]; exact hi
  exact ⟨l[i], b, o, List.getElem?_eq_getElem hl, e, hb, hc i _ (List.getElem?_eq_getElem hl)⟩
end
/-- The element at i, its cells spelled as the walk spells them. -/
theorem Rd.int {w : World} {A : Option Addr} {n : Nat} {l : List Int} (h : Rd encI 1 w A n l) {i : Nat} (hi : i < n) :
    ∃ x b o, Hid (l[i]? = some x) ∧ A = some ⟨b, o, none⟩ ∧ b < w.heap.size ∧ w.cell? ⟨b, o + i, none⟩ = some (.int .i64 x) := by
  obtain ⟨x, b, o, h1, h2, h3, h4⟩ := h.elem hi
  exact ⟨x, b, o, h1, h2, h3, by simpa using h4 0 _ rfl⟩
theorem Rd.pt {w : World} {A : Option Addr} {n : Nat} {l : List (Int × Int)} (h : Rd encP 2 w A n l) {i : Nat} (hi : i < n) :
    ∃ x y b o, Hid (l[i]? = some (x, y)) ∧ A = some ⟨b, o, none⟩ ∧ b < w.heap.size ∧ w.cell? ⟨b, o + i * 2, none⟩ = some (.int .i64 x) ∧ w.cell? ⟨b, o + i * 2 + 1, none⟩ = some (.int .i64 y) := by
  obtain ⟨p, b, o, h1, h2, h3, h4⟩ := h.elem hi
  exact ⟨p.1, p.2, b, o, h1, h2, h3, by simpa using h4 0 _ rfl, h4 1 _ rfl⟩
theorem Rd.cell {w : World} {A : Option Addr} {n : Nat} {l : List (Int × Int × Int)} (h : Rd encC 3 w A n l) {i : Nat} (hi : i < n) :
    ∃ x y s b o, Hid (l[i]? = some (x, y, s)) ∧ A = some ⟨b, o, none⟩ ∧ b < w.heap.size ∧ w.cell? ⟨b, o + i * 3, none⟩ = some (.int .i64 x) ∧ w.cell? ⟨b, o + i * 3 + 1, none⟩ = some (.int .i64 y) ∧ w.cell? ⟨b, o + i * 3 + 2, none⟩ = some (.int .i64 s) := by
  obtain ⟨p, b, o, h1, h2, h3, h4⟩ := h.elem hi
  exact ⟨p.1, p.2.1, p.2.2, b, o, h1, h2, h3, by simpa using h4 0 _ rfl, h4 1 _ rfl, h4 2 _ rfl⟩
end Go.Proofs.YtmenokhnanghgaaGreat
end
section
namespace Go.Proofs.YtmenokhnanghgaaGreat
open Go Go.RowKit

structure Own {α : Type} (enc : α → List Value) (k : Nat) (e : TypeId) (B : Nat) (w : World) (A : Option Addr) (n c : Nat) (l : List α) : Prop where
  row : w.ownsRow B e k (.slice A n c) n (l.flatMap enc)
  len : l.length = n

section
variable {α : Type} {enc : α → List Value} {k : Nat} {e : TypeId} {B : Nat} {w w' : World} {A : Option Addr} {n c : Nat} {l : List α}
theorem Own.nil_ : Own enc k e B w none 0 0 [] := ⟨World.ownsRow_nil _ _ _ _, rfl⟩
theorem Own.of (h : Own enc k e B w A n c l) (hb : Below w.heap.size w w') : Own enc k e B w' A n c l := by
  refine ⟨⟨h.row.1, ?_⟩, h.len⟩
  rcases h.row.2 with h0 | ⟨g, cap, cur, hv, hg, hh, r⟩
  · exact .inl h0
  · exact .inr ⟨g, cap, cur, hv, hg, (hb.block g (Array.getElem?_eq_some_iff.1 hh).1).trans hh, r⟩
theorem Own.drew (h : Own enc k e B w A n c l) : Own enc k e B w.drew A n c l := ⟨h.row, h.len⟩
theorem Own.alloc (h : Own enc k e B w A n c l) (o : Obj) : Own enc k e B (w.alloc o) A n c l := h.of ((Below.refl _ _).alloc (Nat.le_refl _) o)
theorem Own.more {B' : Nat} (h : Own enc k e B w A n c l) (hB : B' ≤ B) : Own enc k e B' w A n c l := by
  refine ⟨⟨h.row.1, ?_⟩, h.len⟩
  rcases h.row.2 with h0 | ⟨g, cap, cur, hv, hg, hh, r⟩
  · exact .inl h0
  · exact .inr ⟨g, cap, cur, hv, by omega, hh, r⟩
theorem Own.setBelow (h : Own enc k e B w A n c l) {b i : Nat} (hb : b < B) (u : Value) : Own enc k e B (w.setCell ⟨b, i, none⟩ u) A n c l :=
  ⟨ownsRow_setCell_below h.row (a := ⟨b, i, none⟩) hb u, h.len⟩
theorem flatMap_get (hk : ∀ x, (enc x).length = k) : ∀ (l : List α) (i : Nat) (x : α), l[i]? = some x → ∀ (j : Nat) (u : Value), (enc x)[j]? = some u → (l.flatMap enc)[i * k + j]? = some u
  | [], i, x, hi, _, _, _ => by simp at hi
  | y :: l, 0, x, hi, j, u, hu => by
    have e : y = x := by simpa using hi
    subst e
    have hj := (List.getElem?_eq_some_iff.1 hu).1
    rw [List.flatMap_cons, Nat.zero_mul, Nat.zero_add, List.getElem?_append_left hj]
    exact hu
  | y :: l, i + 1, x, hi, j, u, hu => by
    have h1 := flatMap_get hk l i x (by simpa using hi) j u hu
    rw [List.flatMap_cons, List.getElem?_append_right (by rw [hk, Nat.add_mul, Nat.one_mul]; omega), hk, show (i + 1) * k + j - k = i * k + j by rw [Nat.add_mul, Nat.one_mul]; omega]
    exact h1
theorem flatMap_len (hk : ∀ x, (enc x).length = k) (l : List α) : (l.flatMap enc).length = l.length * k := by
  induction l with
  | nil => simp
  | cons y l ih => rw [List.flatMap_cons, List.length_append, hk, ih, List.length_cons, Nat.add_mul, Nat.one_mul, Nat.add_comm]
theorem Own.rd (h : Own enc k e B w A n c l) (hk : ∀ x, (enc x).length = k) : Rd enc k w A n l := by
  refine ⟨h.len, fun hn => ?_⟩
  rcases h.row.2 with ⟨_, h0⟩ | ⟨g, cap, cur, hv, hg, hh, h1, h2, h3, h4⟩
  · omega
  · injection hv with hA hn' hc'
    subst hA
    refine ⟨g, 0, rfl, (Array.getElem?_eq_some_iff.1 hh).1, fun i x hi j u hu => ?_⟩
    have hf := flatMap_get hk l i x hi j u hu
    have hlt := (List.getElem?_eq_some_iff.1 hf).1
    rw [flatMap_len hk, h.len] at hlt
    rw [Nat.zero_add, cell_of_row w g (i * k + j) cur e (0, 0) hh, ← hf, ← h4, List.getElem?_take, if_pos hlt]
    simp
theorem Own.above (h : Own enc k e B w A n c l) : ∀ g, (Value.slice A n c).ownBlock = some g → B ≤ g := fun g hg => (h.row.lt g hg).1
end

theorem wpList_append_el {α : Type} {P : Program} {w : World} {ops : Array Oper} {rest : List Oper} {o : Oper} {a : Act} {Q : Exit → Act → World → Prop} (hgd : o.guard = none) (s x : Operand) (t : TypeId)
    (ho : o.op = .call { callee := .builtin .append, args := #[s, x], argTypes := #[t, t] })
    (enc : α → List Value) (k : Nat) (e : TypeId) (z : Value) (bytes : Nat) (ht : P.underlying t = some (.slice e)) (hi : (P.info? e).map (fun i => (i.zero, i.size, i.bytes)) = some (some z, k, bytes)) (hzs : z.cells.size = k) (hk0 : 0 < k)
    (hk : ∀ y, (enc y).length = k) (h1c : ∀ y, ∀ u ∈ enc y, u.oneCell' = true)
    (B : Nat) (A : Option Addr) (n c : Nat) (l : List α) (hs : a.eval s = .slice A n c) (hown : Own enc k e B w A n c l)
    (y : α) (ad : Addr) (m : Nat) (hx : a.eval x = .slice (some ad) 1 m) (hnews : ∀ j u, (enc y)[j]? = some u → w.cell? (ad.add j) = some u)
    (hbytes : (n + 1) * bytes ≤ 140737488355328) (hn : n + 1 ≤ 4611686018427387904) (hbase : B ≤ w.heap.size)
    (h : ∀ A' c' w', Own enc k e B w' A' (n + 1) c' (l ++ [y]) → w.grownBy w' (Value.slice A n c).ownBlock → Below B w w' → wpList P ops Q rest (a.put o.dst (.slice A' (n + 1) c')) w') : wpList P ops Q (o :: rest) a w := by
  obtain ⟨i, hi0, hz0, hz1, hz2⟩ := info_parts hi
  refine wpList_append_own w hgd s x t ho B e i z k bytes ht hi0 hz0 hz1 hz2 hzs hk0 (.slice A n c) n (l.flatMap enc) hs hown.row ad 1 m (enc y) hx (by rw [hk]; omega) hnews (h1c y)
    (by unfold maxLen; omega) hbytes hbase ?_
  intro v' w' hv hg _
  have hgB : Below B w w' := (Below.refl _ _).grown hg hbase hown.above
  rcases hv.2 with ⟨_, h0⟩ | ⟨g, cap, cur, rfl, hr⟩
  · omega
  · exact h _ _ w' ⟨by simpa using ⟨hv.1, Or.inr ⟨g, cap, cur, rfl, hr⟩⟩, by simp [hown.len]⟩ hg hgB
theorem step_append_el {α : Type} {P : Program} {w : World} {ops : Array Oper} {o : Oper} {a : Act} {K : Act → World → Prop} {Q : Exit → Act → World → Prop} {E : Prop} (hgd : o.guard = none) (s x : Operand) (t : TypeId)
    (ho : o.op = .call { callee := .builtin .append, args := #[s, x], argTypes := #[t, t] })
    (enc : α → List Value) (k : Nat) (e : TypeId) (z : Value) (bytes : Nat) (ht : P.underlying t = some (.slice e)) (hi : (P.info? e).map (fun i => (i.zero, i.size, i.bytes)) = some (some z, k, bytes)) (hzs : z.cells.size = k) (hk0 : 0 < k)
    (hk : ∀ y, (enc y).length = k) (h1c : ∀ y, ∀ u ∈ enc y, u.oneCell' = true)
    (B : Nat) (A : Option Addr) (n c : Nat) (l : List α) (hs : a.eval s = .slice A n c) (hown : Own enc k e B w A n c l)
    (y : α) (ad : Addr) (m : Nat) (hx : a.eval x = .slice (some ad) 1 m) (hnews : ∀ j u, (enc y)[j]? = some u → w.cell? (ad.add j) = some u)
    (hbytes : (n + 1) * bytes ≤ 140737488355328) (hn : n + 1 ≤ 4611686018427387904) (hbase : B ≤ w.heap.size)
    (h : ∀ A' c' w', Own enc k e B w' A' (n + 1) c' (l ++ [y]) → w.grownBy w' (Value.slice A n c).ownBlock → Below B w w' → K (a.put o.dst (.slice A' (n + 1) c')) w') :
    if Region.wanted o (yielded ops a.tmps) = true then Oper.wp P o a w K Q else E := by
  obtain ⟨i, hi0, hz0, hz1, hz2⟩ := info_parts hi
  refine step_append_lies _ hgd s x t ho B e i z k bytes ht hi0 hz0 hz1 hz2 hzs hk0 (.slice A n c) n (l.flatMap enc) hs hown.row ad 1 m (enc y) hx (by rw [hk]; omega) hnews (h1c y)
    (by omega) (by unfold maxLen; omega) hbytes hbase w.heap.size rfl ?_
  intro g cap w' hv hg _ _
  have hgB : Below B w w' := (Below.refl _ _).grown hg hbase hown.above
  exact h _ _ w' ⟨by simpa using hv, by simp [hown.len]⟩ hg hgB
theorem cells_new (w : World) (vs : List Value) (t : TypeId) : ∀ j u, vs[j]? = some u → (w.alloc (.cells vs.toArray t)).cell? ((⟨w.heap.size, 0, none⟩ : Addr).add j) = some u := by
  intro j u hu
  have e : (⟨w.heap.size, 0, none⟩ : Addr).add j = ⟨w.heap.size, j, none⟩ := by unfold Addr.add; split <;> simp_all
  rw [e, cell_alloc_if, if_neg (by omega), if_pos rfl]
  simpa using hu
theorem Own.lit {α : Type} {enc : α → List Value} {k : Nat} (hk : ∀ x, (enc x).length = k) (w : World) (e : TypeId) (B : Nat) (hB : B ≤ w.heap.size) (l : List α) (n : Nat) (hn : l.length = n) (hm : n ≤ 4611686018427387904) (cs : List Value) (hcs : cs = l.flatMap enc) :
    Own enc k e B (w.alloc (.cells cs.toArray e)) (some ⟨w.heap.size, 0, none⟩) n n l := by
  subst hcs
  refine ⟨?_, hn⟩
  have h := World.ownsRow_lit (base := B) (e := e) (size := k) w (l.flatMap enc).toArray n hB (by unfold maxLen; omega) (by simp [flatMap_len hk, hn])
  simpa using h
theorem encI_len (x : Int) : (encI x).length = 1 := rfl
theorem encP_len (x : Int × Int) : (encP x).length = 2 := rfl
theorem encC_len (x : Int × Int × Int) : (encC x).length = 3 := rfl
theorem encI_one : ∀ y, ∀ u ∈ encI y, u.oneCell' = true := by intro y u hu; simp [encI] at hu; subst hu; rfl
theorem encP_one : ∀ y, ∀ u ∈ encP y, u.oneCell' = true := by
  intro y u hu
  simp only [encP, List.mem_cons, List.not_mem_nil, or_false] at hu
  rcases hu with rfl | rfl <;> rfl
theorem encC_one : ∀ y, ∀ u ∈ encC y, u.oneCell' = true := by
  intro y u hu
  simp only [encC, List.mem_cons, List.not_mem_nil, or_false] at hu
  rcases hu with rfl | rfl | rfl <;> rfl
end Go.Proofs.YtmenokhnanghgaaGreat
end
section
namespace Go.Proofs.YtmenokhnanghgaaGreat
open Go Go.RowKit
/-- A kind of elements: an element's cells; what it reads as in a world; the blocks in which that lies. -/
structure EK (α β : Type) where
  enc : α → List Value
  k : Nat
  len : ∀ a, (enc a).length = k
  one : ∀ a, ∀ u ∈ enc a, u.oneCell' = true
  pos : 0 < k
  rel : World → α → β → Prop
  blk : α → List Nat
  keep : ∀ {w w' : World} {a : α} {b : β} {row : Option Nat}, rel w a b → w.grownBy w' row → (∀ q ∈ blk a, some q ≠ row) → rel w' a b
  lt : ∀ {w : World} {a : α} {b : β}, rel w a b → ∀ q ∈ blk a, q < w.heap.size
section
variable {α β : Type} (K : EK α β)
/-- Each element reads as its datum. -/
def EK.All (w : World) (xs0 : List α) (bs : List β) : Prop := xs0.length = bs.length ∧ ∀ (i : Nat) a b, xs0[i]? = some a → bs[i]? = some b → K.rel w a b
/-- The slice '.slice A n c' reads as the list bs. -/
def RdX (w : World) (A : Option Addr) (n : Nat) (bs : List β) : Prop := ∃ xs0, Rd K.enc K.k w A n xs0 ∧ K.All w xs0 bs
/-- The same slice in a row of the call's own, which no element leads to. -/
def OwnX (e : TypeId) (B : Nat) (w : World) (A : Option Addr) (n c : Nat) (bs : List β) : Prop := ∃ xs0, Own K.enc K.k e B w A n c xs0 ∧ K.All w xs0 bs ∧ ∀ a ∈ xs0, ∀ q ∈ K.blk a, some q ≠ (Value.slice A n c).ownBlock
variable {K} {w w' : World} {xs0 : List α} {bs : List β} {a : α} {b : β} {A : Option Addr} {n c B : Nat} {e : TypeId} {row : Option Nat}
theorem grown_of_below (h : Below w.heap.size w w') : w.grownBy w' none := ⟨h.os, h.tape, h.output, h.size, fun i hi _ => h.block i hi⟩
theorem EK.All.keep (g : K.All w xs0 bs) (hg : w.grownBy w' row) (hr : ∀ a ∈ xs0, ∀ q ∈ K.blk a, some q ≠ row) : K.All w' xs0 bs := ⟨g.1, fun i a b h1 h2 => K.keep (g.2 i a b h1 h2) hg (hr a (List.mem_of_getElem? h1))⟩
theorem EK.All.of (g : K.All w xs0 bs) (hb : Below w.heap.size w w') : K.All w' xs0 bs := g.keep (grown_of_below hb) (fun _ _ _ _ h => by cases h)
theorem EK.All.nil_ : K.All w [] [] := ⟨rfl, fun i a b h1 _ => by simp at h1⟩
theorem EK.All.snoc (g : K.All w xs0 bs) (k : K.rel w a b) : K.All w (xs0 ++ [a]) (bs ++ [b]) := by
  refine ⟨by simp [g.1], fun i h' l' h1 h2 => ?_⟩
  rcases Nat.lt_or_ge i xs0.length with hi | hi
  · rw [List.getElem?_append_left hi] at h1
    rw [List.getElem?_append_left (by rw [← g.1]; exact hi)] at h2
    exact g.2 i h' l' h1 h2
  · rw [List.getElem?_append_right hi] at h1
    rw [List.getElem?_append_right (by rw [← g.1]; exact hi), ← g.1] at h2
    have e : i - xs0.length = 0 := by
      have := (List.getElem?_eq_some_iff.1 h1).1
      simp at this; omega
    rw [e] at h1 h2
    simp at h1 h2
    subst h1 h2
    exact k
theorem EK.All.lt (g : K.All w xs0 bs) : ∀ a ∈ xs0, ∀ q ∈ K.blk a, q < w.heap.size := by
  intro a ha q hq
  obtain ⟨i, hi, rfl⟩ := List.getElem_of_mem ha
  have hb : i < bs.length := by rw [← g.1]; exact hi
  exact K.lt (g.2 i xs0[i] bs[i] (List.getElem?_eq_getElem hi) (List.getElem?_eq_getElem hb)) q hq
theorem RdX.of (g : RdX K w A n bs) (hb : Below w.heap.size w w') : RdX K w' A n bs := by
  obtain ⟨xs0, h1, h2⟩ := g
  exact ⟨xs0, h1.of hb, h2.of hb⟩
theorem RdX.nil_ : RdX K w A 0 ([] : List β) := ⟨[], Rd.nil_, EK.All.nil_⟩
theorem RdX.len (g : RdX K w A n bs) : bs.length = n := by
  obtain ⟨xs0, h1, h2⟩ := g
  rw [← h2.1, h1.len]
theorem RdX.elem (g : RdX K w A n bs) {i : Nat} (hi : i < n) : ∃ a b bo o, bs[i]? = some b ∧ A = some ⟨bo, o, none⟩ ∧ bo < w.heap.size ∧ (∀ (j : Nat) (u : Value), (K.enc a)[j]? = some u → w.cell? ⟨bo, o + i * K.k + j, none⟩ = some u) ∧ K.rel w a b := by
  obtain ⟨xs0, h1, h2⟩ := g
  obtain ⟨x, b, o, h3, h4, h5, h6⟩ := h1.elem hi
  have hl : i < bs.length := by rw [← h2.1, h1.len]; exact hi
  exact ⟨x, bs[i], b, o, List.getElem?_eq_getElem hl, h4, h5, h6, h2.2 i x bs[i] h3 (List.getElem?_eq_getElem hl)⟩
theorem OwnX.nil_ : OwnX K e B w none 0 0 ([] : List β) := ⟨[], Own.nil_, EK.All.nil_, fun a ha => by cases ha⟩
theorem OwnX.of (g : OwnX K e B w A n c bs) (hb : Below w.heap.size w w') : OwnX K e B w' A n c bs := by
  obtain ⟨xs0, h1, h2, h3⟩ := g
  exact ⟨xs0, h1.of hb, h2.of hb, h3⟩
theorem OwnX.alloc (g : OwnX K e B w A n c bs) (o : Obj) : OwnX K e B (w.alloc o) A n c bs := g.of ((Below.refl _ _).alloc (Nat.le_refl _) o)
theorem OwnX.more {B' : Nat} (g : OwnX K e B w A n c bs) (hB : B' ≤ B) : OwnX K e B' w A n c bs := by
  obtain ⟨xs0, h1, h2, h3⟩ := g
  exact ⟨xs0, h1.more hB, h2, h3⟩
theorem OwnX.rd (g : OwnX K e B w A n c bs) : RdX K w A n bs := by
  obtain ⟨xs0, h1, h2, h3⟩ := g
  exact ⟨xs0, h1.rd K.len, h2⟩
theorem OwnX.len (g : OwnX K e B w A n c bs) : bs.length = n := g.rd.len
theorem OwnX.lt (g : OwnX K e B w A n c bs) : ∀ q, (Value.slice A n c).ownBlock = some q → q < w.heap.size := by
  obtain ⟨xs0, h1, _, _⟩ := g
  intro q hq
  exact (h1.row.lt q hq).2
end
section
variable {α β : Type} {K : EK α β} {P : Program} {w : World} {ops : Array Oper} {rest : List Oper} {o : Oper} {a : Act} {Q : Exit → Act → World → Prop}
/-- append of ONE element onto such a row. The element's cells lie in a block of their own; the element leads to blocks other than the row's. -/
theorem wpList_append_x (hgd : o.guard = none) (s x : Operand) (t : TypeId)
    (ho : o.op = .call { callee := .builtin .append, args := #[s, x], argTypes := #[t, t] })
    (e : TypeId) (z : Value) (bytes : Nat) (ht : P.underlying t = some (.slice e)) (hi : (P.info? e).map (fun i => (i.zero, i.size, i.bytes)) = some (some z, K.k, bytes)) (hzs : z.cells.size = K.k)
    (B : Nat) (A : Option Addr) (n c : Nat) (bs : List β) (hs : a.eval s = .slice A n c) (hown : OwnX K e B w A n c bs)
    (y : α) (b : β) (hrel : K.rel w y b) (hoff : ∀ q ∈ K.blk y, some q ≠ (Value.slice A n c).ownBlock) (ad : Addr) (m : Nat) (hx : a.eval x = .slice (some ad) 1 m) (hnews : ∀ j u, (K.enc y)[j]? = some u → w.cell? (ad.add j) = some u)
    (hbytes : (n + 1) * bytes ≤ 140737488355328) (hn : n + 1 ≤ 4611686018427387904) (hbase : B ≤ w.heap.size)
    (h : ∀ A' c' w', OwnX K e B w' A' (n + 1) c' (bs ++ [b]) → w.grownBy w' (Value.slice A n c).ownBlock → Below B w w' → wpList P ops Q rest (a.put o.dst (.slice A' (n + 1) c')) w') : wpList P ops Q (o :: rest) a w := by
  obtain ⟨xs0, h1, h2, h3⟩ := hown
  obtain ⟨i, hi0, hz0, hz1, hz2⟩ := info_parts hi
  refine wpList_append_own_at w hgd s x t ho B e i z K.k bytes ht hi0 hz0 hz1 hz2 hzs K.pos (.slice A n c) n (xs0.flatMap K.enc) hs h1.row ad 1 m (K.enc y) hx (by rw [K.len]; omega) hnews (K.one y)
    (by unfold maxLen; omega) hbytes hbase ?_
  intro v' w' hv hg _ hloc
  have hgB : Below B w w' := (Below.refl _ _).grown hg hbase h1.above
  rcases hv.2 with ⟨_, h0⟩ | ⟨g, cap, cur, rfl, hr⟩
  · omega
  · refine h _ _ w' ⟨xs0 ++ [y], ⟨by simpa using ⟨hv.1, Or.inr ⟨g, cap, cur, rfl, hr⟩⟩, by simp [h1.len]⟩, (h2.keep hg h3).snoc (K.keep hrel hg hoff), ?_⟩ hg hgB
    intro a' ha' q hq
    rcases List.mem_append.1 ha' with hm | hm
    · rcases hloc with hl | hl
      · rw [hl]; exact h3 a' hm q hq
      · rw [hl]; intro e1; injection e1 with e1; have := h2.lt a' hm q hq; omega
    · obtain rfl : a' = y := by simpa using hm
      rcases hloc with hl | hl
      · rw [hl]; exact hoff q hq
      · rw [hl]; intro e1; injection e1 with e1; have := K.lt hrel q hq; omega
end
/-- The head of a slice as one cell. -/
def encH (h : Option Addr × Nat × Nat) : List Value := [.slice h.1 h.2.1 h.2.2]
theorem encH_len (x : Option Addr × Nat × Nat) : (encH x).length = 1 := rfl
theorem encH_one : ∀ y, ∀ u ∈ encH y, u.oneCell' = true := by intro y u hu; simp [encH] at hu; subst hu; rfl
/-- The block in which a slice's elements lie. -/
def blkH (h : Option Addr × Nat × Nat) : List Nat := if h.2.1 = 0 then [] else match h.1 with
  | some a => [a.block]
  | none => []
theorem Rd.grown {α : Type} {enc : α → List Value} {k : Nat} {w w' : World} {h : Option Addr × Nat × Nat} {l : List α} {row : Option Nat} (g : Rd enc k w h.1 h.2.1 l) (hg : w.grownBy w' row) (hr : ∀ q ∈ blkH h, some q ≠ row) : Rd enc k w' h.1 h.2.1 l :=
  ⟨g.1, fun hn => by
    obtain ⟨b, o, e, hb, hc⟩ := g.2 hn
    have hq : some b ≠ row := hr b (by unfold blkH; rw [if_neg (by omega), e]; simp)
    refine ⟨b, o, e, Nat.lt_of_lt_of_le hb hg.size, fun i x hi j u hu => ?_⟩
    have hbl := hg.block b hb hq
    have h0 := hc i x hi j u hu
    rw [← h0]
    exact World.cell?_of_block hbl⟩
theorem Rd.blk_lt {α : Type} {enc : α → List Value} {k : Nat} {w : World} {h : Option Addr × Nat × Nat} {l : List α} (g : Rd enc k w h.1 h.2.1 l) : ∀ q ∈ blkH h, q < w.heap.size := by
  intro q hq
  unfold blkH at hq
  split at hq
  · cases hq
  · obtain ⟨b, o, e, hb, _⟩ := g.2 (by omega)
    rw [e] at hq
    simp at hq
    omega
/-- Patterns as elements: each a slice of cells, no longer than its room. -/
def ekC : EK (Option Addr × Nat × Nat) (List (Int × Int × Int)) where
  enc := encH
  k := 1
  len := encH_len
  one := encH_one
  pos := by omega
  rel w h l := Rd encC 3 w h.1 h.2.1 l ∧ h.2.1 ≤ h.2.2
  blk := blkH
  keep h hg hr := ⟨h.1.grown hg hr, h.2⟩
  lt h := h.1.blk_lt
/-- The element at i of a list of patterns. -/
theorem RdX.pat {w : World} {A : Option Addr} {n : Nat} {ls : List (List (Int × Int × Int))} (g : RdX ekC w A n ls) {i : Nat} (hi : i < n) : ∃ E m c l b o, Hid (ls[i]? = some l) ∧ A = some ⟨b, o, none⟩ ∧ b < w.heap.size ∧ w.cell? ⟨b, o + i, none⟩ = some (.slice E m c) ∧ Rd encC 3 w E m l ∧ m ≤ c := by
  obtain ⟨x, l, b, o, h1, h2, h3, h4, h5⟩ := g.elem hi
  exact ⟨x.1, x.2.1, x.2.2, l, b, o, h1, h2, h3, by simpa [ekC, encH] using h4 0 _ rfl, h5.1, h5.2⟩
/-- A slice of the call's own from base B on lies in no block of a slice from an elder base. -/
theorem Own.off {α : Type} {enc : α → List Value} {k : Nat} {e : TypeId} {B n c : Nat} {w : World} {A : Option Addr} {l : List α} (h : Own enc k e B w A n c l) {b : Option Nat} (hb : ∀ q, b = some q → q < B) : ∀ q ∈ blkH (A, n, c), some q ≠ b := by
  intro q hq e1
  unfold blkH at hq
  split at hq
  · cases hq
  · cases A with
    | none => simp at hq
    | some a =>
      simp at hq
      rcases h.row.2 with ⟨h0, _⟩ | ⟨g, cap, cur, hv, hg, _⟩
      · cases h0
      · injection hv with hA _ _
        injection hA with hA
        subst hA
        simp only at hq
        have := hb q e1.symm
        omega
end Go.Proofs.YtmenokhnanghgaaGreat
end
section
namespace Go.Proofs.YtmenokhnanghgaaGreat
open Go Go.RowKit
def encN (a : Int × Option Addr × Nat × Nat) : List Value := [.int .i64 a.1, .slice a.2.1 a.2.2.1 a.2.2.2]
theorem encN_len (x : Int × Option Addr × Nat × Nat) : (encN x).length = 2 := rfl
theorem encN_one : ∀ y, ∀ u ∈ encN y, u.oneCell' = true := by
  intro y u hu
  simp [encN] at hu
  rcases hu with rfl | rfl <;> rfl
/-- Nodes as elements. -/
def ekN : EK (Int × Option Addr × Nat × Nat) (Int × List Int) where
  enc := encN
  k := 2
  len := encN_len
  one := encN_one
  pos := by omega
  rel w a x := a.1 = x.1 ∧ Rd encI 1 w a.2.1 a.2.2.1 x.2 ∧ a.2.2.1 ≤ a.2.2.2
  blk a := blkH a.2
  keep h hg hr := ⟨h.1, h.2.1.grown hg hr, h.2.2⟩
  lt h := h.2.1.blk_lt
/-- The node at i. -/
theorem RdX.node {w : World} {A : Option Addr} {n : Nat} {ls : List (Int × List Int)} (g : RdX ekN w A n ls) {i : Nat} (hi : i < n) : ∃ lv nx E m c b o, Hid (ls[i]? = some (lv, nx)) ∧ A = some ⟨b, o, none⟩ ∧ b < w.heap.size ∧ w.cell? ⟨b, o + i * 2, none⟩ = some (.int .i64 lv) ∧ w.cell? ⟨b, o + i * 2 + 1, none⟩ = some (.slice E m c) ∧ Rd encI 1 w E m nx ∧ m ≤ c := by
  obtain ⟨x, l, b, o, h1, h2, h3, h4, h5, h6, h7⟩ := g.elem hi
  obtain ⟨lv, nx⟩ := l
  simp only at h5 h6
  refine ⟨lv, nx, x.2.1, x.2.2.1, x.2.2.2, b, o, h1, h2, h3, ?_, ?_, h6, h7⟩
  · have := h4 0 (.int .i64 x.1) rfl
    rw [h5] at this
    exact this
  · exact h4 1 (.slice x.2.1 x.2.2.1 x.2.2.2) rfl
end Go.Proofs.YtmenokhnanghgaaGreat
end
section
namespace Go.Proofs.YtmenokhnanghgaaGreat
open Go Go.RowKit

structure Fr where
  ai : Nat
  si : Nat
  d : Tmp
  vs : Tmp
  e : TypeId
  z : Array Value

def blankO (o : Oper) : Oper := { dst := none, op := .move (.const undef), type := o.type, pos := o.pos, after := o.after, guard := none }
def stripM : List Bool → List Oper → List Oper
  | true :: m, o :: l => blankO o :: stripM m l
  | false :: m, o :: l => o :: stripM m l
  | _, l => l
theorem stripM_get : ∀ (m : List Bool) (l : List Oper) (i : Nat), (stripM m l)[i]? = (l[i]?).map fun o => if m.getD i false then blankO o else o
  | [], l, i => by cases l <;> cases i <;> simp [stripM]
  | true :: m, [], i => by simp [stripM]
  | false :: m, [], i => by simp [stripM]
  | true :: m, o :: l, 0 => by simp [stripM]
  | false :: m, o :: l, 0 => by simp [stripM]
  | true :: m, o :: l, i + 1 => by simpa [stripM] using stripM_get m l i
  | false :: m, o :: l, i + 1 => by simpa [stripM] using stripM_get m l i
theorem stripM_len : ∀ (m : List Bool) (l : List Oper), (stripM m l).length = l.length
  | [], l => by cases l <;> simp [stripM]
  | true :: m, [] => by simp [stripM]
  | false :: m, [] => by simp [stripM]
  | true :: m, o :: l => by simp [stripM, stripM_len m l]
  | false :: m, o :: l => by simp [stripM, stripM_len m l]
theorem strip_ready (m : List Bool) (l : List Oper) (md : Region.Mode) (listed : Array Bool) : Region.ready md (stripM m l).toArray listed = Region.ready md l.toArray listed := by
  unfold Region.ready
  simp only [List.size_toArray, stripM_len, List.getElem?_toArray, stripM_get, Option.map_map]
  congr 1
  funext i
  congr 2
  cases l[i]? with
  | none => rfl
  | some o => simp only [Option.map_some, Function.comp]; split <;> rfl

def freshB (l : List Oper) (m : List Bool) (fs : List Fr) : Bool :=
  (List.range l.length).all (fun i => match l[i]? with
    | none => false
    | some o => (o.after.all fun e => !Region.binds .any e || decide (e.on < i)) &&
        ((List.range l.length).all fun j => j == i || match l[j]? with | none => false | some o' => o.dst.isNone || o'.dst != o.dst) &&
        (m.getD i false || fs.all fun f => o.dst != some f.d && !(o.looksAt l.toArray).contains f.d) &&
        (!m.getD i false || fs.any fun f => f.ai == i || f.si == i)) &&
  fs.all (fun f => m.getD f.ai false && m.getD f.si false && (match l[f.si]? with
    | none => false
    | some o => o.dst.isNone && (o.after.any fun e => Region.binds .any e && e.on == f.ai) &&
        ((List.range l.length).all fun k => match l[k]? with | none => false | some ok => ok.dst != some f.vs || (o.after.any fun e => Region.binds .any e && e.on == k))) &&
    (match l[f.ai]? with | none => false | some o => o.dst == some f.d) &&
    fs.all (fun g => g.d != f.vs && (g.si != f.ai) && (g.d == f.d || (g.ai != f.ai && g.si != f.si))))

section
variable {P : Program} {l : List Oper} {m : List Bool} {fs : List Fr} {w0 : World} {aq : Act}

def Cl (u : World) : World → Prop := fun w' => ∃ z : Ext u, w' = z.world
theorem Cl.iff {u w' : World} : Cl u w' ↔ Below u.heap.size u w' := ⟨fun ⟨z, h⟩ => h ▸ z.below, fun h => ⟨⟨w', h⟩, rfl⟩⟩
theorem put_get_ne {a : Act} {dst : Option Tmp} {v : Value} {t : Tmp} (h : dst ≠ some t) : (a.put dst v).tmps[t]? = a.tmps[t]? := by
  cases dst with
  | none => rfl
  | some d => simp [Act.put, Array.getElem?_setIfInBounds_ne (show d ≠ t from fun e => h (by rw [e]))]
theorem put_get_same {a : Act} {t : Tmp} {v : Value} (h : t < a.tmps.size) : (a.put (some t) v).tmps[t]? = some v := by simp [Act.put, h]
theorem put_size (a : Act) (dst : Option Tmp) (v : Value) : (a.put dst v).tmps.size = a.tmps.size := by cases dst <;> simp [Act.put]
theorem put_defers (a : Act) (dst : Option Tmp) (v : Value) : (a.put dst v).defers = a.defers := by cases dst <;> rfl

theorem fin_slot {ops : Array Oper} {C : World → Prop} {t : Tmp} : ∀ (fuel : Nat) (listed : Array Bool) (a' : Act), (∀ k o, ops[k]? = some o → listed.getD k true = false → o.dst ≠ some t) →
    wpAnyQ P .any ops C (fun x => x = aq) fuel listed a' → aq.tmps[t]? = a'.tmps[t]?
  | 0, listed, a', _, h => by rw [h.2]
  | fuel + 1, listed, a', hd, h => by
    cases hr : Region.ready .any ops listed with
    | nil => rw [h.1 hr]
    | cons i rest =>
      have hi : i ∈ Region.ready .any ops listed := by rw [hr]; simp
      have h1 := h.2 i hi
      obtain ⟨hun, o, ho, _⟩ := mem_ready.1 hi
      have hdst := hd i o ho hun
      obtain ⟨v, _, hK⟩ := yieldsIn_of_qOp ho h1
      have h2 := fin_slot fuel (listed.setIfInBounds i true) (a'.put o.dst v) (fun k ok hk hl => by
        refine hd k ok hk ?_
        by_cases e : i = k
        · subst e; exact hun
        · rwa [getD_set_ne true e] at hl) hK
      rw [h2, put_get_ne hdst]
end

structure Sim (fs : List Fr) (w0 : World) (aq : Act) (listed : Array Bool) (a' a : Act) (w : World) : Prop where
  defers : a.defers = a'.defers
  size : a.tmps.size = a'.tmps.size
  off : ∀ t, (∀ f, f ∈ fs → f.d ≠ t) → a.tmps[t]? = a'.tmps[t]?
  below : Below w0.heap.size w0 w
  blk : ∀ f, f ∈ fs → listed.getD f.ai false = true → ∃ b, w0.heap.size ≤ b ∧ a.tmps[f.d]? = some (.pointer (some ⟨b, 0, none⟩)) ∧
    w.heap[b]? = some (.cells (if listed.getD f.si false then (aq.tmps.getD f.vs undef).cells else f.z) f.e (0, 0))
  ord : ∀ f, f ∈ fs → listed.getD f.si false = true → listed.getD f.ai false = true
  dis : ∀ f g, f ∈ fs → g ∈ fs → f.d ≠ g.d → listed.getD f.ai false = true → listed.getD g.ai false = true → ∀ b, a.tmps[f.d]? = some (.pointer (some ⟨b, 0, none⟩)) → a.tmps[g.d]? ≠ some (.pointer (some ⟨b, 0, none⟩))

theorem listed_all {ops : Array Oper} {listed : Array Bool} (hsz : listed.size = ops.size) (he : ∀ i o, ops[i]? = some o → ∀ e ∈ o.after, Region.binds .any e = true → e.on < i)
    (hr : Region.ready .any ops listed = []) : ∀ i, i < ops.size → listed.getD i true = true := by
  intro i
  induction i using Nat.strongRecOn with
  | _ i ih =>
    intro hi
    cases hl : listed.getD i true with
    | true => rfl
    | false =>
      have : i ∈ Region.ready .any ops listed := mem_ready.2 ⟨hl, ops[i], Array.getElem?_eq_getElem hi, fun e hm hb => by
        have hlt := he i _ (Array.getElem?_eq_getElem hi) e hm hb
        have h1 := ih e.on hlt (by omega)
        have h2 : e.on < listed.size := by omega
        simpa [h2] using h1⟩
      rw [hr] at this
      cases this
theorem getD_tf {listed : Array Bool} {i : Nat} (h : i < listed.size) : listed.getD i true = listed.getD i false := by simp [h]

theorem getD_set_cases {listed : Array Bool} {i j : Nat} (hj : j < listed.size) : (listed.setIfInBounds i true).getD j false = (decide (i = j) || listed.getD j false) := by
  by_cases e : i = j
  · subst e; simp [hj]
  · rw [getD_set_ne false e]; simp [e]

section
variable {P : Program} {l : List Oper} {m : List Bool} {fs : List Fr} {w0 : World} {aq : Act}
structure FreshOk (l : List Oper) (m : List Bool) (fs : List Fr) : Prop where
  edge : ∀ (i : Nat) (o : Oper), l[i]? = some o → ∀ e ∈ o.after, Region.binds .any e = true → e.on < i
  uniq : ∀ (i j : Nat) (o o' : Oper) (t : Tmp), l[i]? = some o → l[j]? = some o' → o.dst = some t → o'.dst = some t → i = j
  quiet : ∀ (i : Nat) (o : Oper), l[i]? = some o → m.getD i false = false → ∀ f, f ∈ fs → o.dst ≠ some f.d ∧ f.d ∉ o.looksAt l.toArray
  mask : ∀ (i : Nat) (o : Oper), l[i]? = some o → m.getD i false = true → ∃ f, f ∈ fs ∧ (f.ai = i ∨ f.si = i)
  masked : ∀ f, f ∈ fs → m.getD f.ai false = true ∧ m.getD f.si false = true
  store : ∀ f, f ∈ fs → ∃ o, l[f.si]? = some o ∧ o.dst = none ∧ (∃ e ∈ o.after, Region.binds .any e = true ∧ e.on = f.ai) ∧ ∀ (k : Nat) (ok : Oper), l[k]? = some ok → ok.dst = some f.vs → ∃ e ∈ o.after, Region.binds .any e = true ∧ e.on = k
  alloc : ∀ f, f ∈ fs → ∃ o, l[f.ai]? = some o ∧ o.dst = some f.d
  apart : ∀ f g, f ∈ fs → g ∈ fs → g.d ≠ f.vs ∧ g.si ≠ f.ai ∧ (g.d = f.d ∨ g.ai ≠ f.ai ∧ g.si ≠ f.si)
theorem freshOk_of (h : freshB l m fs = true) : FreshOk l m fs := by
  unfold freshB at h
  simp only [Bool.and_eq_true, List.all_eq_true, List.mem_range] at h
  obtain ⟨h1, h2⟩ := h
  have at_ : ∀ i o, l[i]? = some o → _ := fun i o ho => h1 i (List.getElem?_eq_some_iff.1 ho).1
  refine ⟨fun i o ho e he hb => ?_, fun i j o o' t ho ho' ht ht' => ?_, fun i o ho hm f hf => ?_, fun i o ho hm => ?_, fun f hf => ?_, fun f hf => ?_, fun f hf => ?_, fun f g hf hg => ?_⟩
  · have := at_ i o ho
    simp only [ho, Bool.and_eq_true, Array.all_eq_true_iff_forall_mem] at this
    have h3 := this.1.1.1 e he
    simpa [hb] using h3
  · have := at_ i o ho
    simp only [ho, Bool.and_eq_true, List.all_eq_true, List.mem_range] at this
    have h3 := this.1.1.2 j (List.getElem?_eq_some_iff.1 ho').1
    simp only [ho', ht, ht'] at h3
    have : j = i := by simpa using h3
    exact this.symm
  · have := at_ i o ho
    simp only [ho, hm, Bool.and_eq_true, Bool.false_or, List.all_eq_true] at this
    have h3 := this.1.2 f hf
    simp only [Bool.and_eq_true, bne_iff_ne, Bool.not_eq_true', List.contains_eq_mem, decide_eq_false_iff_not] at h3
    exact h3
  · have := at_ i o ho
    simp only [ho, hm, Bool.and_eq_true, Bool.not_true, Bool.false_or, List.any_eq_true] at this
    obtain ⟨f, hf, h3⟩ := this.2
    exact ⟨f, hf, by simpa using h3⟩
  · have := h2 f hf
    exact ⟨this.1.1.1.1, this.1.1.1.2⟩
  · have h3 := (h2 f hf).1.1.2
    cases ho : l[f.si]? with
    | none => rw [ho] at h3; cases h3
    | some o =>
      simp only [ho, Bool.and_eq_true, Option.isNone_iff_eq_none, Array.any_eq_true', List.all_eq_true, List.mem_range] at h3
      obtain ⟨⟨h4, e, he, h5⟩, h6⟩ := h3
      refine ⟨o, rfl, h4, ⟨e, he, by simpa using h5⟩, fun k ok hk hv => ?_⟩
      have h7 := h6 k (List.getElem?_eq_some_iff.1 hk).1
      simp only [hk, hv, bne_self_eq_false, Bool.false_or, Array.any_eq_true', Bool.and_eq_true] at h7
      obtain ⟨e', he', h8⟩ := h7
      exact ⟨e', he', by simpa using h8⟩
  · have h3 := (h2 f hf).1.2
    cases ho : l[f.ai]? with
    | none => rw [ho] at h3; cases h3
    | some o => rw [ho] at h3; exact ⟨o, rfl, by simpa using h3⟩
  · have h3 := (h2 f hf).2 g hg
    simpa [and_assoc] using h3

structure FreshRuns (P : Program) (l : List Oper) (fs : List Fr) (aq : Act) : Prop where
  alloc : ∀ f, f ∈ fs → ∀ (o : Oper), l[f.ai]? = some o → ∀ (ρ : Operand → Value) (w : World), (execOp ρ o).run P w = .ok (.value (.pointer (some ⟨w.heap.size, 0, none⟩))) (w.alloc (.cells f.z f.e))
  store : ∀ f, f ∈ fs → ∀ (o : Oper), l[f.si]? = some o → ∀ (ρ : Operand → Value) (b : Nat) (w : World), ρ (.tmp f.d) = .pointer (some ⟨b, 0, none⟩) → ρ (.tmp f.vs) = aq.tmps.getD f.vs undef → w.heap[b]? = some (.cells f.z f.e (0, 0)) →
    (execOp ρ o).run P w = .ok .skip (w.setRow b (aq.tmps.getD f.vs undef).cells)
  free : ∀ f, f ∈ fs → (∀ (o : Oper), l[f.ai]? = some o → o.guard = none) ∧ ∀ (o : Oper), l[f.si]? = some o → o.guard = none
  slot : ∀ f, f ∈ fs → f.vs < aq.tmps.size ∧ f.d < aq.tmps.size
  inj : ∀ f g, f ∈ fs → g ∈ fs → f.d = g.d → f = g
  sel : ∀ (i : Nat) (o : Oper) cs b, l[i]? = some o → o.op ≠ .select cs b

theorem Sim.size_aq {listed : Array Bool} {a' a : Act} {w : World} (h : Sim fs w0 aq listed a' a w) (hs : a'.tmps.size = aq.tmps.size) : a.tmps.size = aq.tmps.size := h.size.trans hs

theorem setRow_heap_other (w : World) (g k : Nat) (cs : Array Value) (h : k ≠ g) : (w.setRow g cs).heap[k]? = w.heap[k]? := by
  unfold World.setRow
  simp only [Array.getElem?_modify]
  rw [if_neg (fun e => h e.symm)]

theorem sim_sound {Q : Exit → Act → World → Prop} (ok : FreshOk l m fs) (run : FreshRuns P l fs aq)
    (hfin : ∀ (listed : Array Bool) a w, (∀ i, i < l.length → listed.getD i true = true) → listed.size = l.length → Sim fs w0 aq listed aq a w → Q .normal a w) :
    ∀ (fuel : Nat) (listed : Array Bool) (a' a : Act) (w : World), listed.size = l.length → a'.tmps.size = aq.tmps.size → Sim fs w0 aq listed a' a w →
      (∀ u, Below w0.heap.size w0 u → wpAnyQ P .any (stripM m l).toArray (Cl u) (fun x => x = aq) fuel listed a') → wpAny P .any l.toArray Q fuel listed a w := by
  have fin : ∀ (fuel : Nat) (listed : Array Bool) a' a w, listed.size = l.length → Sim fs w0 aq listed a' a w → Region.ready .any l.toArray listed = [] → a' = aq → Q .normal a w := by
    intro _ listed a' a w hsz hsim hr he
    subst he
    exact hfin listed a w (fun i hi => listed_all (by simpa using hsz) (fun i o ho => ok.edge i o (by simpa using ho)) hr i (by simpa using hi)) hsz hsim
  intro fuel
  induction fuel with
  | zero =>
    intro listed a' a w hsz _ hsim hq
    have h := hq w hsim.below
    have hr : Region.ready .any l.toArray listed = [] := by rw [← strip_ready m]; exact h.1
    exact ⟨hr, fin 0 listed a' a w hsz hsim hr h.2⟩
  | succ fuel ih =>
    intro listed a' a w hsz hsa hsim hq
    have h := hq w hsim.below
    refine ⟨fun hr => fin 0 listed a' a w hsz hsim hr (h.1 (by rw [strip_ready]; exact hr)), fun i hi => ?_⟩
    obtain ⟨hun, o, ho, hall⟩ := mem_ready.1 hi
    have hol : l[i]? = some o := by simpa using ho
    have hilt : i < l.length := (List.getElem?_eq_some_iff.1 hol).1
    have hi' : i ∈ Region.ready .any (stripM m l).toArray listed := by rw [strip_ready]; exact hi
    have hso : (stripM m l).toArray[i]? = some (if m.getD i false then blankO o else o) := by simp [stripM_get, hol]
    unfold wpOp
    simp only [ho]
    cases hm : m.getD i false with
    | false =>
      rw [hm] at hso
      simp only [Bool.false_eq_true, if_false] at hso
      have hqi := ok.quiet i o hol hm
      -- the slots that o looks at are the same in both frames
      have hsame : ∀ t, t ∈ o.looksAt l.toArray → a.tmps[t]? = a'.tmps[t]? := fun t ht => hsim.off t fun f hf e => (hqi f hf).2 (e ▸ ht)
      have hexec : execOp a.eval o = execOp a'.eval o := execOp_congr o (fun cs b => run.sel i o cs b hol) fun x hx => by
        cases x with
        | tmp t =>
          have h1 := hsame t (by
            unfold Oper.looksAt
            exact List.mem_append_left _ (List.mem_filterMap.2 ⟨.tmp t, by simpa using hx, rfl⟩))
          simp [Act.eval, h1]
        | _ => rfl
      have hwant : Region.wanted o (yielded l.toArray a.tmps) = Region.wanted o (yielded (stripM m l).toArray a'.tmps) := by
        unfold Region.wanted
        cases hg : o.guard with
        | none => rfl
        | some gw =>
          obtain ⟨g, want⟩ := gw
          have hy : yielded l.toArray a.tmps g = yielded (stripM m l).toArray a'.tmps g := by
            unfold yielded
            simp only [List.getElem?_toArray, stripM_get]
            cases hlg : l[g]? with
            | none => rfl
            | some og =>
              have hlook : ∀ t, og.dst = some t → t ∈ o.looksAt l.toArray := fun t ht => by
                unfold Oper.looksAt
                refine List.mem_append_right _ ?_
                simp [hg, hlg, ht]
              simp only [Option.map_some, Option.bind_some]
              cases hmg : m.getD g false with
              | false =>
                simp only [Bool.false_eq_true, if_false]
                cases hd : og.dst with
                | none => rfl
                | some t => simp only [Option.bind_some, hsame t (hlook t hd)]
              | true =>
                simp only [if_true]
                obtain ⟨f, hf, h1 | h1⟩ := ok.mask g og hlg hmg
                · obtain ⟨oa, hoa, hda⟩ := ok.alloc f hf
                  rw [h1, hlg] at hoa
                  cases hoa
                  exact absurd (hlook f.d hda) (hqi f hf).2
                · obtain ⟨os, hos, hds, _⟩ := ok.store f hf
                  rw [h1, hlg] at hos
                  cases hos
                  rw [hds]; rfl
          simp only [hy]
      have hstep : ∀ u, Below w0.heap.size w0 u → qOp P (stripM m l).toArray (Cl u) i (wpAnyQ P .any (stripM m l).toArray (Cl u) (fun x => x = aq) fuel (listed.setIfInBounds i true)) a' := fun u hu => (hq u hu).2 i hi'
      -- the frame behind the step does not hang on the world
      have hput : ∀ u v, (wpAnyQ P .any (stripM m l).toArray (Cl u) (fun x => x = aq) fuel (listed.setIfInBounds i true)) (a'.put o.dst v) → ∀ u' v', (wpAnyQ P .any (stripM m l).toArray (Cl u') (fun x => x = aq) fuel (listed.setIfInBounds i true)) (a'.put o.dst v') → a'.put o.dst v' = a'.put o.dst v := by
        intro u v h1 u' v' h2
        cases hd : o.dst with
        | none => rfl
        | some t =>
          rw [hd] at h1 h2
          by_cases hlt : t < a'.tmps.size
          · have hfut : ∀ k ok', (stripM m l).toArray[k]? = some ok' → (listed.setIfInBounds i true).getD k true = false → ok'.dst ≠ some t := by
              intro k ok' hk hl hdk
              simp only [List.getElem?_toArray, stripM_get] at hk
              cases hlk : l[k]? with
              | none => rw [hlk] at hk; cases hk
              | some okk =>
                rw [hlk] at hk
                simp only [Option.map_some, Option.some.injEq] at hk
                cases hmk : m.getD k false with
                | true => rw [hmk] at hk; simp only [if_true] at hk; subst hk; cases hdk
                | false =>
                  rw [hmk] at hk
                  simp only [Bool.false_eq_true, if_false] at hk
                  subst hk
                  have hki := ok.uniq k i _ _ t hlk hol hdk hd
                  subst hki
                  have : k < listed.size := by omega
                  simp [this] at hl
            have e1 := fin_slot _ _ _ hfut h1
            have e2 := fin_slot _ _ _ hfut h2
            rw [put_get_same hlt] at e1 e2
            rw [e1] at e2
            rw [Option.some.inj e2]
          · simp [Act.put, Array.setIfInBounds, hlt]
      have hkeep : ∀ v (w' : World), Below w.heap.size w w' → Sim fs w0 aq (listed.setIfInBounds i true) (a'.put o.dst v) (a.put o.dst v) w' := by
        intro v w' hb
        have hne : ∀ f, f ∈ fs → i ≠ f.ai ∧ i ≠ f.si := fun f hf => by
          have := ok.masked f hf
          constructor <;> (intro e; subst e; rw [hm] at this; simp at this)
        have hl1 : ∀ f, f ∈ fs → (listed.setIfInBounds i true).getD f.ai false = listed.getD f.ai false := fun f hf => getD_set_ne false (hne f hf).1
        have hl2 : ∀ f, f ∈ fs → (listed.setIfInBounds i true).getD f.si false = listed.getD f.si false := fun f hf => getD_set_ne false (hne f hf).2
        have ht : ∀ f, f ∈ fs → (a.put o.dst v).tmps[f.d]? = a.tmps[f.d]? := fun f hf => put_get_ne (hqi f hf).1
        refine ⟨by rw [put_defers, put_defers, hsim.defers], by rw [put_size, put_size, hsim.size], fun t htf => ?_, hsim.below.trans (hb.mono hsim.below.size), fun f hf hlf => ?_, fun f hf h => by rw [hl1 f hf]; rw [hl2 f hf] at h; exact hsim.ord f hf h, fun f g hf hg hfg h1 h2 b h3 => ?_⟩
        · by_cases e : o.dst = some t
          · rw [e]
            by_cases hlt : t < a.tmps.size
            · rw [put_get_same hlt, put_get_same (by rw [← hsim.size]; exact hlt)]
            · have n1 : (a.put (some t) v).tmps[t]? = none := Array.getElem?_eq_none (by rw [put_size]; exact Nat.le_of_not_lt hlt)
              have n2 : (a'.put (some t) v).tmps[t]? = none := Array.getElem?_eq_none (by rw [put_size, ← hsim.size]; exact Nat.le_of_not_lt hlt)
              rw [n1, n2]
          · rw [put_get_ne e, put_get_ne e]; exact hsim.off t htf
        · rw [hl1 f hf] at hlf
          obtain ⟨b, hb1, hb2, hb3⟩ := hsim.blk f hf hlf
          refine ⟨b, hb1, by rw [ht f hf]; exact hb2, ?_⟩
          rw [hl2 f hf, hb.block b (Array.getElem?_eq_some_iff.1 hb3).1]
          exact hb3
        · rw [hl1 f hf] at h1
          rw [hl1 g hg] at h2
          rw [ht f hf] at h3
          rw [ht g hg]
          exact hsim.dis f g hf hg hfg h1 h2 b h3
      rw [hwant]
      cases hw : Region.wanted o (yielded (stripM m l).toArray a'.tmps) with
      | false =>
        have hstep' : ∀ u, Below w0.heap.size w0 u → wpAnyQ P .any (stripM m l).toArray (Cl u) (fun x => x = aq) fuel (listed.setIfInBounds i true) (a'.put o.dst undef) := fun u hu => by
          have := hstep u hu
          unfold qOp at this
          simp only [hso, hw, Bool.false_eq_true, if_false] at this
          exact this
        simp only [Bool.false_eq_true, if_false]
        exact ih _ _ _ _ (by simp [hsz]) (by rw [put_size]; exact hsa) (hkeep undef w (Below.refl _ _)) hstep'
      | true =>
        have hstep' : ∀ u, Below w0.heap.size w0 u → Oper.quiet P o a' (Cl u) (wpAnyQ P .any (stripM m l).toArray (Cl u) (fun x => x = aq) fuel (listed.setIfInBounds i true)) := fun u hu => by
          have := hstep u hu
          unfold qOp at this
          simp only [hso, hw, if_true] at this
          exact this
        obtain ⟨v, hv, hnext⟩ := hstep' w hsim.below
        have hnext' : ∀ u, Below w0.heap.size w0 u → wpAnyQ P .any (stripM m l).toArray (Cl u) (fun x => x = aq) fuel (listed.setIfInBounds i true) (a'.put o.dst v) := fun u hu => by
          obtain ⟨v', _, hn'⟩ := hstep' u hu
          rw [← hput w v hnext u v' hn']
          exact hn'
        simp only [if_true]
        refine .inl ?_
        have hv' := hv w (Cl.iff.2 (Below.refl _ _))
        unfold Oper.quietAt at hv'
        unfold Oper.wp
        rw [hexec]
        generalize (execOp a'.eval o).run P w = r at hv' ⊢
        cases r with
        | ok n w' =>
          cases n <;> simp only [Oper.quietUpon] at hv' <;> simp only [Oper.upon]
          case value x =>
            obtain ⟨rfl, rfl⟩ := hv'
            exact ih _ _ _ _ (by simp [hsz]) (by rw [put_size]; exact hsa) (hkeep x w' (Below.refl _ _)) hnext'
          case skip =>
            obtain ⟨rfl, rfl⟩ := hv'
            exact ih _ _ _ _ (by simp [hsz]) (by rw [put_size]; exact hsa) (hkeep undef w' (Below.refl _ _)) hnext'
          case enter f args =>
            obtain ⟨rfl, hc⟩ := hv'
            exact hc.mono fun e w'' ⟨he, hw''⟩ => by
              subst he
              have hb := Cl.iff.1 hw''
              exact ih _ _ _ _ (by simp [hsz]) (by rw [put_size]; exact hsa) (hkeep v w'' hb) hnext'
        | halt x w' => simp only [Oper.quietUpon] at hv'
    | true =>
      rw [hm] at hso
      simp only [if_true] at hso
      have hstep : ∀ u, Below w0.heap.size w0 u → wpAnyQ P .any (stripM m l).toArray (Cl u) (fun x => x = aq) fuel (listed.setIfInBounds i true) a' := fun u hu => by
        have h1 := (hq u hu).2 i hi'
        unfold qOp at h1
        simp only [hso, Region.wanted, blankO, if_true] at h1
        obtain ⟨v, _, h2⟩ := h1
        exact h2
      obtain ⟨f, hf, hfi⟩ := ok.mask i o hol hm
      have hlsz : ∀ j, j < l.length → (listed.setIfInBounds i true).getD j false = (decide (i = j) || listed.getD j false) := fun j hj => getD_set_cases (by omega)
      have hai : ∀ g, g ∈ fs → g.ai < l.length := fun g hg => by obtain ⟨og, hog, _⟩ := ok.alloc g hg; exact (List.getElem?_eq_some_iff.1 hog).1
      have hsi : ∀ g, g ∈ fs → g.si < l.length := fun g hg => by obtain ⟨og, hog, _⟩ := ok.store g hg; exact (List.getElem?_eq_some_iff.1 hog).1
      by_cases hfa : f.ai = i
      · subst hfa
        obtain ⟨oa, hoa, hda⟩ := ok.alloc f hf
        rw [hol] at hoa
        cases hoa
        have hg := (run.free f hf).1 o hol
        have hw : Region.wanted o (yielded l.toArray a.tmps) = true := by simp [Region.wanted, hg]
        simp only [hw, if_true]
        refine .inl ?_
        unfold Oper.wp
        rw [run.alloc f hf o hol]
        simp only [Oper.upon]
        have hb : Below w.heap.size w (w.alloc (.cells f.z f.e)) := (Below.refl _ _).alloc (Nat.le_refl _) _
        refine ih _ a' _ _ (by simp [hsz]) hsa ?_ hstep
        have hlu : listed.getD f.ai false = false := getD_both hun
        have hsu : listed.getD f.si false = false := by
          cases h1 : listed.getD f.si false with
          | false => rfl
          | true => rw [hsim.ord f hf h1] at hlu; cases hlu
        have hdlt : f.d < a.tmps.size := by rw [hsim.size_aq hsa]; exact (run.slot f hf).2
        have hself : ∀ g, g ∈ fs → f.ai = g.ai → g = f := fun g hg' e => by
          rcases (ok.apart f g hf hg').2.2 with h1 | h1
          · exact run.inj g f hg' hf h1
          · exact absurd e.symm h1.1
        have hother : ∀ g, g ∈ fs → g ≠ f → g.d ≠ f.d := fun g hg' hne e => hne (run.inj g f hg' hf e)
        rw [hda]
        refine ⟨by rw [put_defers]; exact hsim.defers, by rw [put_size]; exact hsim.size, fun t ht => ?_, hsim.below.trans (hb.mono hsim.below.size), fun g hg' hl => ?_, fun g hg' h1 => ?_, fun g k hg' hk hgk h1 h2 b h3 => ?_⟩
        · rw [put_get_ne (fun e => ht f hf (Option.some.inj e))]; exact hsim.off t ht
        · rw [hlsz _ (hsi g hg'), show decide (f.ai = g.si) = false from decide_eq_false (fun e => (ok.apart f g hf hg').2.1 e.symm), Bool.false_or]
          by_cases e : g = f
          · subst e
            refine ⟨w.heap.size, hsim.below.size, put_get_same hdlt, ?_⟩
            rw [hsu]
            simpa using heap_alloc_new w (.cells g.z g.e)
          · rw [hlsz _ (hai g hg')] at hl
            have hne : f.ai ≠ g.ai := fun e' => e (hself g hg' e')
            have hl' : listed.getD g.ai false = true := by simpa [hne] using hl
            obtain ⟨b, hb1, hb2, hb3⟩ := hsim.blk g hg' hl'
            exact ⟨b, hb1, by rw [put_get_ne (fun e' => hother g hg' e (Option.some.inj e').symm)]; exact hb2, by rw [hb.block b (Array.getElem?_eq_some_iff.1 hb3).1]; exact hb3⟩
        · rw [hlsz _ (hsi g hg'), show decide (f.ai = g.si) = false from decide_eq_false (fun e => (ok.apart f g hf hg').2.1 e.symm), Bool.false_or] at h1
          rw [hlsz _ (hai g hg'), hsim.ord g hg' h1, Bool.or_true]
        · have hold : ∀ g, g ∈ fs → g ≠ f → (listed.setIfInBounds f.ai true).getD g.ai false = true → listed.getD g.ai false = true := fun g hg' e hl => by
            rw [hlsz _ (hai g hg')] at hl
            have hne : f.ai ≠ g.ai := fun e' => e (hself g hg' e')
            simpa [hne] using hl
          have hslot : ∀ g, g ∈ fs → g ≠ f → (a.put (some f.d) (.pointer (some ⟨w.heap.size, 0, none⟩))).tmps[g.d]? = a.tmps[g.d]? := fun g hg' e => put_get_ne (fun e' => hother g hg' e (Option.some.inj e').symm)
          have hlow : ∀ g, g ∈ fs → listed.getD g.ai false = true → a.tmps[g.d]? ≠ some (.pointer (some ⟨w.heap.size, 0, none⟩)) := fun g hg' hl e => by
            obtain ⟨b, _, hb2, hb3⟩ := hsim.blk g hg' hl
            rw [hb2] at e
            injection e with e; injection e with e; injection e with e; injection e with e
            have := (Array.getElem?_eq_some_iff.1 hb3).1
            omega
          by_cases eg : g = f
          · subst eg
            have ek : k ≠ g := fun e => hgk (by rw [e])
            rw [put_get_same hdlt] at h3
            rw [hslot k hk ek]
            injection h3 with h3
            rw [← h3]
            exact hlow k hk (hold k hk ek h2)
          · by_cases ek : k = f
            · subst ek
              rw [hslot g hg' eg] at h3
              rw [put_get_same hdlt]
              intro e
              injection e with e
              rw [← e] at h3
              exact hlow g hg' (hold g hg' eg h1) h3
            · rw [hslot g hg' eg] at h3
              rw [hslot k hk ek]
              exact hsim.dis g k hg' hk hgk (hold g hg' eg h1) (hold k hk ek h2) b h3
      · have hfs : f.si = i := hfi.resolve_left hfa
        subst hfs
        obtain ⟨os, hos, hds, ⟨e0, he0, hb0, hon0⟩, hwr⟩ := ok.store f hf
        rw [hol] at hos
        cases hos
        have hg := (run.free f hf).2 o hol
        have hw : Region.wanted o (yielded l.toArray a.tmps) = true := by simp [Region.wanted, hg]
        have hla : listed.getD f.ai false = true := by rw [← hon0]; exact hall e0 he0 hb0
        have hsu : listed.getD f.si false = false := getD_both hun
        obtain ⟨b, hb1, hb2, hb3⟩ := hsim.blk f hf hla
        rw [hsu] at hb3
        simp only [Bool.false_eq_true, if_false] at hb3
        have hvs : a'.tmps[f.vs]? = aq.tmps[f.vs]? := by
          refine (fin_slot _ _ _ (fun k ok' hk hl hdk => ?_) (hq w hsim.below)).symm
          simp only [List.getElem?_toArray, stripM_get] at hk
          cases hlk : l[k]? with
          | none => rw [hlk] at hk; cases hk
          | some okk =>
            rw [hlk] at hk
            simp only [Option.map_some, Option.some.injEq] at hk
            cases hmk : m.getD k false with
            | true => rw [hmk] at hk; simp only [if_true] at hk; subst hk; cases hdk
            | false =>
              rw [hmk] at hk
              simp only [Bool.false_eq_true, if_false] at hk
              subst hk
              obtain ⟨e, he, hbe, hone⟩ := hwr k _ hlk hdk
              have := hall e he hbe
              rw [hone, getD_both hl] at this
              cases this
        have hav : a.eval (.tmp f.vs) = aq.tmps.getD f.vs undef := by
          have h1 := hsim.off f.vs (fun g hg' => (ok.apart f g hf hg').1)
          rw [hvs] at h1
          simp [Act.eval, h1]
        have had : a.eval (.tmp f.d) = .pointer (some ⟨b, 0, none⟩) := by simp [Act.eval, hb2]
        simp only [hw, if_true]
        refine .inl ?_
        unfold Oper.wp
        rw [run.store f hf o hol a.eval b w had hav hb3]
        simp only [Oper.upon]
        rw [hds]
        simp only [Act.put]
        have hbel : Below w0.heap.size w (w.setRow b (aq.tmps.getD f.vs undef).cells) := ⟨rfl, rfl, rfl, by rw [setRow_size]; exact Nat.le_refl _, fun k hk => setRow_heap_other w b k _ (by omega)⟩
        have hself : ∀ g, g ∈ fs → f.si = g.si → g = f := fun g hg' e => by
          rcases (ok.apart f g hf hg').2.2 with h1 | h1
          · exact run.inj g f hg' hf h1
          · exact absurd e.symm h1.2
        refine ih _ a' _ _ (by simp [hsz]) hsa ?_ hstep
        · have hlai : ∀ g, g ∈ fs → (listed.setIfInBounds f.si true).getD g.ai false = listed.getD g.ai false := fun g hg' => getD_set_ne false (fun e => (ok.apart g f hg' hf).2.1 e)
          refine ⟨hsim.defers, hsim.size, hsim.off, hsim.below.trans hbel, fun g hg' hl => ?_, fun g hg' h1 => ?_, fun g k hg' hk hgk h1 h2 => ?_⟩
          · rw [hlai g hg'] at hl
            by_cases e : g = f
            · subst e
              refine ⟨b, hb1, hb2, ?_⟩
              rw [hlsz _ (hsi g hg')]
              simpa using setRow_heap w b _ _ _ _ hb3
            · have hne : f.si ≠ g.si := fun e' => e (hself g hg' e')
              obtain ⟨b', hb1', hb2', hb3'⟩ := hsim.blk g hg' hl
              refine ⟨b', hb1', hb2', ?_⟩
              rw [hlsz _ (hsi g hg'), show decide (f.si = g.si) = false from decide_eq_false hne, Bool.false_or]
              rw [setRow_heap_other _ _ _ _ (fun e' => ?_)]
              · exact hb3'
              · subst e'
                exact hsim.dis f g hf hg' (fun e'' => e (run.inj g f hg' hf e''.symm)) hla hl b' hb2 hb2'
          · rw [hlai g hg']
            rw [hlsz _ (hsi g hg')] at h1
            by_cases e : f.si = g.si
            · rw [hself g hg' e]; exact hla
            · exact hsim.ord g hg' (by simpa [e] using h1)
          · rw [hlai g hg'] at h1
            rw [hlai k hk] at h2
            exact hsim.dis g k hg' hk hgk h1 h2

theorem wp_region_fresh {id : Nat} {Q : Exit → Act → World → Prop} {a : Act} (hm : P.follows .mixedOrders = true) (hlex : Region.lexB .any (stripM m l).toArray = true) (hchk : freshB l m fs = true) (run : FreshRuns P l fs aq)
    (hsz : a.tmps.size = aq.tmps.size)
    (hq : ∀ u, Below w0.heap.size w0 u → wpQuiet P (stripM m l).toArray (fun w' => ∃ z : Ext u, w' = z.world) (fun x => x = aq) (stripM m l) a)
    (hfin : ∀ a' w', a'.defers = aq.defers → a'.tmps.size = aq.tmps.size → (∀ t, (∀ f, f ∈ fs → f.d ≠ t) → a'.tmps[t]? = aq.tmps[t]?) → Below w0.heap.size w0 w' →
      (∀ f, f ∈ fs → ∃ b, w0.heap.size ≤ b ∧ a'.tmps[f.d]? = some (.pointer (some ⟨b, 0, none⟩)) ∧ w'.heap[b]? = some (.cells (aq.tmps.getD f.vs undef).cells f.e (0, 0))) →
      (∀ f g, f ∈ fs → g ∈ fs → f.d ≠ g.d → ∀ b, a'.tmps[f.d]? = some (.pointer (some ⟨b, 0, none⟩)) → a'.tmps[g.d]? ≠ some (.pointer (some ⟨b, 0, none⟩))) → Q .normal a' w') :
    (Code.region id l.toArray true).wp P Q a w0 := by
  have ok := freshOk_of hchk
  have hai : ∀ f, f ∈ fs → f.ai < l.length := fun g hg => by obtain ⟨og, hog, _⟩ := ok.alloc g hg; exact (List.getElem?_eq_some_iff.1 hog).1
  have hsi : ∀ f, f ∈ fs → f.si < l.length := fun g hg => by obtain ⟨og, hog, _⟩ := ok.store g hg; exact (List.getElem?_eq_some_iff.1 hog).1
  simp only [Region.lexB, Bool.and_eq_true] at hlex
  refine wp_region_any hm ?_
  refine sim_sound ok run (fun listed a' w' hall hls hsim => ?_) _ _ a a _ (by simp) hsz ⟨rfl, rfl, fun _ _ => rfl, (Below.refl _ _).drew, fun f _ h => ?_, fun f _ h => ?_, fun f _ _ _ _ h => ?_⟩ (fun u hu => ?_)
  · refine hfin a' w' hsim.defers hsim.size hsim.off hsim.below (fun f hf => ?_) (fun f g hf hg hfg b h => ?_)
    · have h1 : listed.getD f.ai false = true := by rw [← getD_tf (by rw [hls]; exact hai f hf)]; exact hall _ (hai f hf)
      have h2 : listed.getD f.si false = true := by rw [← getD_tf (by rw [hls]; exact hsi f hf)]; exact hall _ (hsi f hf)
      obtain ⟨b, hb1, hb2, hb3⟩ := hsim.blk f hf h1
      rw [h2] at hb3
      exact ⟨b, hb1, hb2, hb3⟩
    · have h1 : listed.getD f.ai false = true := by rw [← getD_tf (by rw [hls]; exact hai f hf)]; exact hall _ (hai f hf)
      have h2 : listed.getD g.ai false = true := by rw [← getD_tf (by rw [hls]; exact hai g hg)]; exact hall _ (hai g hg)
      exact hsim.dis f g hf hg hfg h1 h2 b h
  · rw [getD_replicate_false] at h; cases h
  · rw [getD_replicate_false] at h; cases h
  · rw [getD_replicate_false] at h; cases h
  · have := wpAnyQ_lex (P := P) (C := Cl u) (md := .any) (Q := fun x => x = aq) hlex.1 (stripM m l) 0 (Array.replicate (stripM m l).toArray.size false) a (by simp) (by simpa using hlex.2) (hq u hu)
    simpa [stripM_len] using this

theorem alloc_run {o : Oper} {e : TypeId} {zv : Value} (ho : o.op = .alloc e) (hz : ∀ w, (zeroValue e).run P w = .ok zv w) (ρ : Operand → Value) (w : World) :
    (execOp ρ o).run P w = .ok (.value (.pointer (some ⟨w.heap.size, 0, none⟩))) (w.alloc (.cells zv.cells e)) := by
  unfold execOp
  simp [ho, Instr.alloc, hz, newVar, newRow]
theorem store_run {o : Oper} {e : TypeId} {d vs : Tmp} {z : Array Value} {V : Value} (ho : o.op = .store e (.tmp d) (.tmp vs)) (hV : ∃ cs : Array Value, V = .agg cs ∧ (P.info? e).map (·.size) = some cs.size ∧ z.size = cs.size ∧ cs.all (·.oneCell') = true)
    (ρ : Operand → Value) (b : Nat) (w : World) (h1 : ρ (.tmp d) = .pointer (some ⟨b, 0, none⟩)) (h2 : ρ (.tmp vs) = V) (h3 : w.heap[b]? = some (.cells z e (0, 0))) :
    (execOp ρ o).run P w = .ok .skip (w.setRow b V.cells) := by
  obtain ⟨cs, rfl, hi, hz, hc⟩ := hV
  unfold execOp
  have := run_storeVar_row (P := P) w b e e z cs h3 hi hz hc
  simp [ho, h1, h2, Instr.storeAt, Instr.sureAddr, this, Value.cells]

theorem wp_region_fresh2 {id : Nat} {Q : Exit → Act → World → Prop} {a : Act} (m : List Bool) (ai si : Nat) (d vs : Tmp) (e : TypeId) (zv : Value) (cs : Array Value) (ai' si' : Nat) (d' vs' : Tmp) (e' : TypeId) (zv' : Value) (cs' : Array Value)
    (hq : ∀ u, Below w0.heap.size w0 u → wpQuiet P (stripM m l).toArray (fun w' => ∃ z : Ext u, w' = z.world) (fun x => x = aq) (stripM m l) a)
    (hm : P.follows .mixedOrders = true) (hlex : Region.lexB .any (stripM m l).toArray = true) (hsel : Region.noSelect l.toArray = true) (hchk : freshB l m [⟨ai, si, d, vs, e, zv.cells⟩, ⟨ai', si', d', vs', e', zv'.cells⟩] = true)
    (hoa : (l[ai]?).map (fun o => (o.op, o.guard)) = some (.alloc e, none)) (hos : (l[si]?).map (fun o => (o.op, o.guard)) = some (.store e (.tmp d) (.tmp vs), none)) (hz : ∀ w, (zeroValue e).run P w = .ok zv w)
    (hoa' : (l[ai']?).map (fun o => (o.op, o.guard)) = some (.alloc e', none)) (hos' : (l[si']?).map (fun o => (o.op, o.guard)) = some (.store e' (.tmp d') (.tmp vs'), none)) (hz' : ∀ w, (zeroValue e').run P w = .ok zv' w)
    (hsz : a.tmps.size = aq.tmps.size) (hd : d < aq.tmps.size) (hd' : d' < aq.tmps.size) (hdd : d ≠ d') (hvs : aq.tmps[vs]? = some (.agg cs)) (hi : (P.info? e).map (·.size) = some cs.size) (hzc : zv.cells.size = cs.size) (hone : cs.all (·.oneCell') = true)
    (hvs' : aq.tmps[vs']? = some (.agg cs')) (hi' : (P.info? e').map (·.size) = some cs'.size) (hzc' : zv'.cells.size = cs'.size) (hone' : cs'.all (·.oneCell') = true)
    (hfin : ∀ b b' w', w0.heap.size ≤ b → b < w'.heap.size → w0.heap.size ≤ b' → b' < w'.heap.size → b ≠ b' → Below w0.heap.size w0 w' → w'.heap[b]? = some (.cells cs e (0, 0)) → w'.heap[b']? = some (.cells cs' e' (0, 0)) →
      Q .normal ((aq.put (some d) (.pointer (some ⟨b, 0, none⟩))).put (some d') (.pointer (some ⟨b', 0, none⟩))) w') :
    (Code.region id l.toArray true).wp P Q a w0 := by
  have hget : aq.tmps.getD vs undef = .agg cs := by simp [hvs]
  have hget' : aq.tmps.getD vs' undef = .agg cs' := by simp [hvs']
  have hop : ∀ (i : Nat) (o : Oper) (x : Op × Option (Nat × Bool)), l[i]? = some o → (l[i]?).map (fun o => (o.op, o.guard)) = some x → o.op = x.1 ∧ o.guard = x.2 := fun i o x h h' => by
    rw [h] at h'; cases h'; exact ⟨rfl, rfl⟩
  have two : ∀ f : Fr, f ∈ [(⟨ai, si, d, vs, e, zv.cells⟩ : Fr), ⟨ai', si', d', vs', e', zv'.cells⟩] → f = ⟨ai, si, d, vs, e, zv.cells⟩ ∨ f = ⟨ai', si', d', vs', e', zv'.cells⟩ := fun f hf => by simpa using hf
  refine wp_region_fresh (fs := [⟨ai, si, d, vs, e, zv.cells⟩, ⟨ai', si', d', vs', e', zv'.cells⟩]) hm hlex hchk ⟨fun f hf o ho => ?_, fun f hf o ho => ?_, fun f hf => ?_, fun f hf => ?_, fun f g hf hg hfg => ?_, fun i o c b ho => Region.noSelect_spec hsel i o c b (by simpa using ho)⟩ hsz hq ?_
  · rcases two f hf with rfl | rfl
    · exact alloc_run (hop _ _ _ ho hoa).1 hz
    · exact alloc_run (hop _ _ _ ho hoa').1 hz'
  · rcases two f hf with rfl | rfl
    · rw [hget]; exact fun ρ b w => store_run (V := .agg cs) (hop _ _ _ ho hos).1 ⟨cs, rfl, hi, hzc, hone⟩ ρ b w
    · rw [hget']; exact fun ρ b w => store_run (V := .agg cs') (hop _ _ _ ho hos').1 ⟨cs', rfl, hi', hzc', hone'⟩ ρ b w
  · rcases two f hf with rfl | rfl
    · exact ⟨fun o ho => (hop _ _ _ ho hoa).2, fun o ho => (hop _ _ _ ho hos).2⟩
    · exact ⟨fun o ho => (hop _ _ _ ho hoa').2, fun o ho => (hop _ _ _ ho hos').2⟩
  · rcases two f hf with rfl | rfl
    · exact ⟨(Array.getElem?_eq_some_iff.1 hvs).1, hd⟩
    · exact ⟨(Array.getElem?_eq_some_iff.1 hvs').1, hd'⟩
  · rcases two f hf with rfl | rfl <;> rcases two g hg with rfl | rfl
    · rfl
    · exact absurd hfg hdd
    · exact absurd hfg.symm hdd
    · rfl
  · intro a' w' h1 h2 h3 h4 h5 h6
    obtain ⟨b, hb1, hb2, hb3⟩ := h5 ⟨ai, si, d, vs, e, zv.cells⟩ (by simp)
    obtain ⟨b', hb1', hb2', hb3'⟩ := h5 ⟨ai', si', d', vs', e', zv'.cells⟩ (by simp)
    rw [hget] at hb3
    rw [hget'] at hb3'
    have hbb : b ≠ b' := fun e'' => by
      subst e''
      exact h6 ⟨ai, si, d, vs, e, zv.cells⟩ ⟨ai', si', d', vs', e', zv'.cells⟩ (by simp) (by simp) hdd b hb2 hb2'
    have e'' : a' = (aq.put (some d) (.pointer (some ⟨b, 0, none⟩))).put (some d') (.pointer (some ⟨b', 0, none⟩)) := by
      obtain ⟨t', dd'⟩ := a'
      obtain ⟨t, dd⟩ := aq
      simp only [Act.put, Act.mk.injEq]
      refine ⟨Array.ext_getElem? fun i => ?_, h1⟩
      have hlt : d < t.size := hd
      have hlt' : d' < t.size := hd'
      by_cases e1 : d' = i
      · subst e1
        simpa [hlt'] using hb2'
      · rw [Array.getElem?_setIfInBounds_ne e1]
        by_cases e2 : d = i
        · subst e2
          simpa [hlt] using hb2
        · rw [Array.getElem?_setIfInBounds_ne e2]
          exact h3 i fun f hf => by
            rcases two f hf with rfl | rfl
            · exact e2
            · exact e1
    rw [e'']
    exact hfin b b' w' hb1 (Array.getElem?_eq_some_iff.1 hb3).1 hb1' (Array.getElem?_eq_some_iff.1 hb3').1 hbb h4 hb3 hb3'
end
end Go.Proofs.YtmenokhnanghgaaGreat
end
section
namespace Go.Proofs.YtmenokhnanghgaaGreat
open Go Go.RowKit Go.Sort
variable {α : Type} [Inhabited α]
theorem get!_of {l : List α} {i : Nat} {x : α} (h : l[i]? = some x) : l.toArray[i]! = x := by
  have hi := (List.getElem?_eq_some_iff.1 h).1
  have e := (List.getElem?_eq_some_iff.1 h).2
  rw [getElem!_pos _ i (by simpa using hi)]
  simpa using e
theorem flatK_flatMap {enc : α → List Value} {k : Nat} (hk : ∀ x, (enc x).length = k) (hk0 : 0 < k) (l : List α) : (flatK enc k l.toArray).toList = l.flatMap enc := by
  apply List.ext_getElem?
  intro t
  by_cases ht : t < l.length * k
  · have h1 := get_flatK enc k l.toArray t (by simpa using ht)
    have hs : t < (flatK enc k l.toArray).size := by simpa using ht
    rw [getElem!_pos _ t hs] at h1
    rw [Array.getElem?_toList, Array.getElem?_eq_getElem hs, h1]
    have hq : t / k < l.length := (Nat.div_lt_iff_lt_mul hk0).2 ht
    have hr : t % k < k := Nat.mod_lt _ hk0
    have e1 : l[t / k]? = some l[t / k] := List.getElem?_eq_getElem hq
    rw [get!_of e1]
    have e2 : (enc l[t / k])[t % k]? = some ((enc l[t / k])[t % k]'(by rw [hk]; exact hr)) := List.getElem?_eq_getElem (by rw [hk]; exact hr)
    have h2 := flatMap_get hk l (t / k) _ e1 (t % k) _ e2
    rw [Nat.mul_comm, Nat.div_add_mod] at h2
    rw [h2, getElem!_pos _ _ (by rw [hk]; exact hr)]
  · rw [List.getElem?_eq_none (by simp; omega), List.getElem?_eq_none (by rw [flatMap_len hk]; omega)]
section
variable {enc : α → List Value} {k : Nat} {e : TypeId} {B : Nat} {w : World} {g n c : Nat} {l : List α}
omit [Inhabited α] in
theorem own_block (h : Own enc k e B w (some ⟨g, 0, none⟩) n c l) : ∃ cur, w.heap[g]? = some (.cells cur e (0, 0)) ∧ B ≤ g ∧ n ≤ c ∧ c ≤ maxLen ∧ cur.size = c * k ∧ cur.toList.take (n * k) = l.flatMap enc := by
  rcases h.row.2 with ⟨h0, _⟩ | ⟨g', cap, cur, hv, hg, hh, h1, h2, h3, h4⟩
  · cases h0
  · injection hv with hA _ hc
    injection hA with hA
    injection hA with hA
    subst hA; subst hc
    exact ⟨cur, hh, hg, h1, h2, h3, h4⟩
omit [Inhabited α] in
theorem own_lt (h : Own enc k e B w (some ⟨g, 0, none⟩) n c l) : B ≤ g ∧ g < w.heap.size := by
  obtain ⟨cur, hh, hg, _⟩ := own_block h
  exact ⟨hg, (Array.getElem?_eq_some_iff.1 hh).1⟩
theorem own_holdsK (hk : ∀ x, (enc x).length = k) (hk0 : 0 < k) (h : Own enc k e B w (some ⟨g, 0, none⟩) n c l) : HoldsK enc k w g 0 l.toArray := by
  obtain ⟨cur, hh, hg, h1, h2, h3, h4⟩ := own_block h
  intro j hj
  have hj' : j < n * k := by simpa [← h.len] using hj
  have hf := flatK_flatMap hk hk0 l
  refine ⟨?_, by simp [World.frozen?, hh]⟩
  rw [Nat.zero_add, cell_of_row w g j cur e (0, 0) hh]
  have e1 : (cur.toList.take (n * k))[j]? = (flatK enc k l.toArray).toList[j]? := by rw [h4, hf]
  rw [List.getElem?_take, if_pos hj', Array.getElem?_toList, Array.getElem?_toList, Array.getElem?_eq_getElem hj] at e1
  rw [e1, getElem!_pos _ j hj]; rfl
theorem own_sorted (hk : ∀ x, (enc x).length = k) (hk0 : 0 < k) (h : Own enc k e B w (some ⟨g, 0, none⟩) n c l) {l' : List α} (hl : l'.length = n) (m : Nat) (os : Array Obj) :
    Own enc k e B (sortWorldK enc k w g 0 m l'.toArray os) (some ⟨g, 0, none⟩) n c l' := by
  obtain ⟨cur, hh, hg, h1, h2, h3, h4⟩ := own_block h
  have hlt := (Array.getElem?_eq_some_iff.1 hh).1
  have hf := flatK_flatMap hk hk0 l'
  have hle : n * k ≤ c * k := Nat.mul_le_mul_right k h1
  refine ⟨⟨by rw [flatMap_len hk, hl], .inr ⟨g, c, putCells id 0 (flatK enc k l'.toArray) cur, rfl, hg, ?_, h1, h2, by simpa [putCells] using h3, ?_⟩⟩, hl⟩
  · unfold sortWorldK grow
    rw [Array.getElem?_append_left (by simpa [putRowK, putRow, mapBlock, Sort.ahead] using hlt)]
    simp [putRowK, putRow, mapBlock, Sort.ahead, Array.getElem?_modify, hh, onCells]
  · rw [← hf]
    apply List.ext_getElem?
    intro j
    rw [List.getElem?_take, Array.getElem?_toList, Array.getElem?_toList]
    by_cases hj : j < n * k
    · have hjc : j < cur.size := by omega
      have hjf : j < (flatK enc k l'.toArray).size := by simpa [hl] using hj
      rw [if_pos hj]
      simp only [putCells, Array.getElem?_mapIdx, Array.getElem?_eq_getElem hjc, Option.map_some]
      rw [if_pos ⟨Nat.zero_le _, by simpa using hjf⟩, Nat.sub_zero, getElem!_pos _ j hjf, Array.getElem?_eq_getElem hjf]; rfl
    · rw [if_neg hj, Array.getElem?_eq_none (by simp [hl]; omega)]
theorem below_sorted {B : Nat} (d : Array α) (hg : B ≤ g) (hgl : g < w.heap.size) (m : Nat) (os : Array Obj) : Below B w (sortWorldK enc k w g 0 m d os) :=
  ⟨rfl, rfl, rfl, by simp [sortWorldK, grow, putRowK, putRow, mapBlock, Sort.ahead], fun i hi => by
    unfold sortWorldK grow
    have hlt : i < w.heap.size := by omega
    rw [Array.getElem?_append_left (by simpa [putRowK, putRow, mapBlock, Sort.ahead] using hlt)]
    simp [putRowK, putRow, mapBlock, Sort.ahead, Array.getElem?_modify, show g ≠ i by omega]⟩
end
/-- What the sort leaves, as lists. -/
theorem sorted_list {lt : α → α → Bool} {l : List α} {d' : Array α} (hp : PermIn 0 l.toArray.size l.toArray d') (hs : SortedIn lt 0 l.toArray.size d') : ∃ l' : List α, d' = l'.toArray ∧ l'.Perm l ∧ l'.Pairwise fun a b => lt b a = false := by
  refine ⟨d'.toList, by simp, ?_, ?_⟩
  · have h := hp.2.2
    have hz := hp.1
    rw [← hz] at h
    simp only [List.size_toArray, hz] at h
    have e1 : d'.extract 0 d'.size = d' := by simp
    have hz' : d'.size = l.length := by simpa using hz
    rw [← hz', e1] at h
    rw [show (l.toArray.extract 0 d'.size) = l.toArray by rw [hz']; simp] at h
    simpa using h
  · rw [List.pairwise_iff_getElem]
    intro i j hi hj hij
    have hz : d'.size = l.length := by simpa using hp.1
    have h := hs i j (Nat.zero_le _) hij (by simpa [hz] using hj)
    rw [getElem!_pos d' j (by simpa using hj), getElem!_pos d' i (by simpa using hi)] at h
    simpa using h
end Go.Proofs.YtmenokhnanghgaaGreat
end
section
namespace Go.Proofs.YtmenokhnanghgaaGreat
open Go Go.RowKit
section
variable {B : Nat} {e : TypeId} {w : World} {g n c : Nat}
theorem flatMap_set {α : Type} {enc : α → List Value} {k : Nat} (hk : ∀ x, (enc x).length = k) : ∀ (l : List α) (i : Nat) (y : α), i < l.length → (l.set i y).flatMap enc = (l.flatMap enc).take (i * k) ++ enc y ++ (l.flatMap enc).drop (i * k + k)
  | [], i, y, h => by simp at h
  | x :: l, 0, y, _ => by
    simp only [List.set_cons_zero, List.flatMap_cons, Nat.zero_mul, List.take_zero, List.nil_append, Nat.zero_add]
    rw [List.drop_left' (hk x)]
  | x :: l, i + 1, y, h => by
    have ih := flatMap_set hk l i y (by simpa using h)
    simp only [List.set_cons_succ, List.flatMap_cons]
    have e1 : (enc x ++ l.flatMap enc).take ((i + 1) * k) = enc x ++ (l.flatMap enc).take (i * k) := by
      rw [List.take_append, List.take_of_length_le (by rw [hk, Nat.add_mul]; omega), hk, Nat.add_mul, Nat.one_mul, Nat.add_sub_cancel]
    have e2 : (enc x ++ l.flatMap enc).drop ((i + 1) * k + k) = (l.flatMap enc).drop (i * k + k) := by
      rw [List.drop_append, List.drop_of_length_le (by rw [hk, Nat.add_mul]; omega), hk, Nat.add_mul, Nat.one_mul, Nat.add_sub_cancel, List.nil_append]
    rw [ih, e1, e2]
    simp [List.append_assoc]
theorem own_cells {α : Type} {enc : α → List Value} {k : Nat} (hk : ∀ x, (enc x).length = k) {l : List α} (h : Own enc k e B w (some ⟨g, 0, none⟩) n c l) {j : Nat} (hj : j < n * k) : w.cell? ⟨g, j, none⟩ = (l.flatMap enc)[j]? ∧ w.frozen? ⟨g, j, none⟩ = false :=
  ⟨h.row.cellAt j hj, h.row.frozenAt j⟩
theorem own_stored {α : Type} {enc : α → List Value} {k : Nat} {l l' : List α} (h : Own enc k e B w (some ⟨g, 0, none⟩) n c l) (j : Nat) (u : Value) (hl : l'.length = n) (he : (l.flatMap enc).set j u = l'.flatMap enc) : Own enc k e B (w.setCell ⟨g, j, none⟩ u) (some ⟨g, 0, none⟩) n c l' := by
  have := (h.row.stored j u).1
  rw [he] at this
  exact ⟨this, hl⟩
end
end Go.Proofs.YtmenokhnanghgaaGreat
end
section
namespace Go.Proofs.YtmenokhnanghgaaGreat
open Go Go.RowKit
/-- All that lay in W lies in w' as it did. -/
structure FrW (W w' : World) : Prop where
  below : Below W.heap.size W w'
section
variable {W w w' : World} {b b2 : Nat} {x y z u v : Value}
theorem FrW.here (W : World) : FrW W W := ⟨Below.refl _ _⟩
theorem FrW.drew (h : FrW W w) : FrW W w.drew := ⟨h.below.drew⟩
theorem FrW.alloc (h : FrW W w) (o : Obj) : FrW W (w.alloc o) := ⟨h.below.alloc h.below.size o⟩
theorem FrW.then (h : FrW W w) (hb : Below W.heap.size w w') : FrW W w' := ⟨h.below.trans hb⟩
theorem FrW.of (h : FrW W w) (hb : Below w.heap.size w w') : FrW W w' := ⟨h.below.trans (hb.mono h.below.size)⟩
end
end Go.Proofs.YtmenokhnanghgaaGreat
end
section
namespace Go.Proofs.YtmenokhnanghgaaGreat
open Go Go.RowKit
/-- The slice reads as the pattern l, is no longer than its room, and lies in blocks from B on. -/
structure NewP (B : Nat) (w : World) (A : Option Addr) (n c : Nat) (l : List (Int × Int × Int)) : Prop where
  rd : Rd encC 3 w A n l
  cap : n ≤ c
  loc : ∀ q ∈ blkH (A, n, c), B ≤ q
theorem NewP.nil_ {B : Nat} {w : World} : NewP B w none 0 0 [] := ⟨Rd.nil_, Nat.le_refl _, fun q hq => by simp [blkH] at hq⟩
theorem NewP.own {e : TypeId} {B n c : Nat} {w : World} {A : Option Addr} {l : List (Int × Int × Int)} (h : Own encC 3 e B w A n c l) : NewP B w A n c l := by
  refine ⟨h.rd encC_len, ?_, fun q hq => ?_⟩
  · rcases h.row.2 with ⟨h0, _⟩ | ⟨g, cap, cur, hv, hg, hh, h1, r⟩
    · injection h0 with _ e1 e2; omega
    · injection hv with _ e1 e2; omega
  · unfold blkH at hq
    split at hq
    · cases hq
    · cases A with
      | none => simp at hq
      | some a =>
        simp at hq
        rcases h.row.2 with ⟨h0, _⟩ | ⟨g, cap, cur, hv, hg, _⟩
        · cases h0
        · injection hv with hA _ _
          injection hA with hA
          subst hA
          simp only at hq
          omega
theorem NewP.of {B n c : Nat} {w w' : World} {A : Option Addr} {l : List (Int × Int × Int)} (h : NewP B w A n c l) (hb : Below w.heap.size w w') : NewP B w' A n c l := ⟨h.rd.of hb, h.cap, h.loc⟩
theorem NewP.more {B B' n c : Nat} {w : World} {A : Option Addr} {l : List (Int × Int × Int)} (h : NewP B w A n c l) (hB : B' ≤ B) : NewP B' w A n c l := ⟨h.rd, h.cap, fun q hq => Nat.le_trans hB (h.loc q hq)⟩
theorem NewP.off {B n c : Nat} {w : World} {A : Option Addr} {l : List (Int × Int × Int)} (h : NewP B w A n c l) {b : Option Nat} (hb : ∀ q, b = some q → q < B) : ∀ q ∈ blkH (A, n, c), some q ≠ b := fun q hq e => by
  have h1 := h.loc q hq
  have h2 := hb q e.symm
  omega
end Go.Proofs.YtmenokhnanghgaaGreat
end
section
namespace Go.Proofs.YtmenokhnanghgaaGreat
open Go Go.RowKit
theorem wpList_append_elL {α : Type} {P : Program} {w : World} {ops : Array Oper} {rest : List Oper} {o : Oper} {a : Act} {Q : Exit → Act → World → Prop} (hgd : o.guard = none) (s x : Operand) (t : TypeId)
    (ho : o.op = .call { callee := .builtin .append, args := #[s, x], argTypes := #[t, t] })
    (enc : α → List Value) (k : Nat) (e : TypeId) (z : Value) (bytes : Nat) (ht : P.underlying t = some (.slice e)) (hi : (P.info? e).map (fun i => (i.zero, i.size, i.bytes)) = some (some z, k, bytes)) (hzs : z.cells.size = k) (hk0 : 0 < k)
    (hk : ∀ y, (enc y).length = k) (h1c : ∀ y, ∀ u ∈ enc y, u.oneCell' = true)
    (B : Nat) (A : Option Addr) (n c : Nat) (l : List α) (hs : a.eval s = .slice A n c) (hown : Own enc k e B w A n c l)
    (y : α) (ad : Addr) (m : Nat) (hx : a.eval x = .slice (some ad) 1 m) (hnews : ∀ j u, (enc y)[j]? = some u → w.cell? (ad.add j) = some u)
    (hbytes : (n + 1) * bytes ≤ 140737488355328) (hn : n + 1 ≤ 4611686018427387904) (hbase : B ≤ w.heap.size)
    (h : ∀ A' c' w', Own enc k e B w' A' (n + 1) c' (l ++ [y]) → w.grownBy w' (Value.slice A n c).ownBlock → Below B w w' → ((Value.slice A' (n + 1) c').ownBlock = (Value.slice A n c).ownBlock ∨ (Value.slice A' (n + 1) c').ownBlock = some w.heap.size) → wpList P ops Q rest (a.put o.dst (.slice A' (n + 1) c')) w') : wpList P ops Q (o :: rest) a w := by
  obtain ⟨i, hi0, hz0, hz1, hz2⟩ := info_parts hi
  refine wpList_append_own_at w hgd s x t ho B e i z k bytes ht hi0 hz0 hz1 hz2 hzs hk0 (.slice A n c) n (l.flatMap enc) hs hown.row ad 1 m (enc y) hx (by rw [hk]; omega) hnews (h1c y)
    (by unfold maxLen; omega) hbytes hbase ?_
  intro v' w' hv hg _ hloc
  have hgB : Below B w w' := (Below.refl _ _).grown hg hbase hown.above
  rcases hv.2 with ⟨_, h0⟩ | ⟨g, cap, cur, rfl, hr⟩
  · omega
  · exact h _ _ w' ⟨by simpa using ⟨hv.1, Or.inr ⟨g, cap, cur, rfl, hr⟩⟩, by simp [hown.len]⟩ hg hgB hloc
/-- The row of the slice is not the block b. -/
def OffB (A : Option Addr) (n c b : Nat) : Prop := ∀ g, (Value.slice A n c).ownBlock = some g → g ≠ b
theorem OffB.ne {A : Option Addr} {n c b : Nat} (h : OffB A n c b) : some b ≠ (Value.slice A n c).ownBlock := fun e => h b e.symm rfl
theorem OffB.lt {α : Type} {enc : α → List Value} {k : Nat} {e : TypeId} {B n c b : Nat} {w : World} {A : Option Addr} {l : List α} (h : Own enc k e B w A n c l) (hb : w.heap.size ≤ b) : OffB A n c b := fun g hg e => by have := (h.row.lt g hg).2; omega
theorem OffB.below {α : Type} {enc : α → List Value} {k : Nat} {e : TypeId} {B n c b : Nat} {w : World} {A : Option Addr} {l : List α} (h : Own enc k e B w A n c l) (hb : b < B) : OffB A n c b := fun g hg e => by have := h.above g hg; omega
theorem OffB.step {A A' : Option Addr} {n c n' c' b s : Nat} (h : OffB A n c b) (hl : (Value.slice A' n' c').ownBlock = (Value.slice A n c).ownBlock ∨ (Value.slice A' n' c').ownBlock = some s) (hb : b < s) : OffB A' n' c' b := fun g hg e => by
  rcases hl with hl | hl
  · exact h g (by rw [← hl]; exact hg) e
  · rw [hl] at hg; injection hg with hg; omega
end Go.Proofs.YtmenokhnanghgaaGreat
end
