/- A slice that reads as a list: of integers, of positions, of cells. -/
import Derived.Test.YtnhnkmppmicjoaaBase
import Derived.Laws.OwnMore
import Derived.Deep.AppendLies
import Derived.Maps.AppendAt
import Derived.OwnWalk
namespace Go.Proofs.Ytnhnkmppmicjoaa
open Go Go.RowKit
set_option linter.unusedSimpArgs false
set_option linter.unusedVariables false

def encI (x : Int) : List Value := [.int .i64 x]
def encP (p : Int × Int) : List Value := [.int .i64 p.1, .int .i64 p.2]
def encC (c : Int × Int × Int) : List Value := [.int .i64 c.1, .int .i64 c.2.1, .int .i64 c.2.2]

/-- The slice value '.slice A n c' reads as the list l in the world w: each element lies as 'enc' says, k cells. -/
def Rd {α : Type} (enc : α → List Value) (k : Nat) (w : World) (A : Option Addr) (n : Nat) (l : List α) : Prop :=
  l.length = n ∧ (0 < n → ∃ b o, A = some ⟨b, o, none⟩ ∧ b < w.heap.size ∧ ∀ (i : Nat) (x : α), l[i]? = some x → ∀ (j : Nat) (u : Value), (enc x)[j]? = some u → w.cell? ⟨b, o + i * k + j, none⟩ = some u)

section
variable {α : Type} {enc : α → List Value} {k : Nat} {w w' : World} {A : Option Addr} {n : Nat} {l : List α}
theorem Rd.nil_ : Rd enc k w A 0 [] := ⟨rfl, fun h => absurd h (by omega)⟩
theorem Rd.keep (h : Rd enc k w A n l) (hs : w.heap.size ≤ w'.heap.size) (hk : ∀ b o, b < w.heap.size → w'.cell? ⟨b, o, none⟩ = w.cell? ⟨b, o, none⟩) : Rd enc k w' A n l :=
  ⟨h.1, fun hn => by
    obtain ⟨b, o, e, hb, hc⟩ := h.2 hn
    exact ⟨b, o, e, by omega, fun i x hi j u hu => (hk _ _ hb).trans (hc i x hi j u hu)⟩⟩
theorem Rd.of (h : Rd enc k w A n l) (hb : Below w.heap.size w w') : Rd enc k w' A n l := h.keep hb.size fun _ _ hlt => hb.cell (p := ⟨_, _, none⟩) hlt
theorem Rd.drew (h : Rd enc k w A n l) : Rd enc k w.drew A n l := h
theorem Rd.len (h : Rd enc k w A n l) : l.length = n := h.1
theorem Rd.elem (h : Rd enc k w A n l) {i : Nat} (hi : i < n) : ∃ x b o, l[i]? = some x ∧ A = some ⟨b, o, none⟩ ∧ b < w.heap.size ∧ ∀ (j : Nat) (u : Value), (enc x)[j]? = some u → w.cell? ⟨b, o + i * k + j, none⟩ = some u := by
  obtain ⟨b, o, e, hb, hc⟩ := h.2 (by omega)
  have hl : i < l.length := by rw [h.1]; exact hi
  exact ⟨l[i], b, o, List.getElem?_eq_getElem hl, e, hb, hc i _ (List.getElem?_eq_getElem hl)⟩
end
/-- The element at i, its cells spelled as the walk spells them. -/
theorem Rd.int {w : World} {A : Option Addr} {n : Nat} {l : List Int} (h : Rd encI 1 w A n l) {i : Nat} (hi : i < n) :
    ∃ x b o, Hid (l[i]? = some x) ∧ A = some ⟨b, o, none⟩ ∧ b < w.heap.size ∧ w.cell? ⟨b, o + i, none⟩ = some (.int .i64 x) := by
  obtain ⟨x, b, o, h1, h2, h3, h4⟩ := h.elem hi
  exact ⟨x, b, o, h1, h2, h3, by simpa using h4 0 _ rfl⟩
theorem Rd.pt {w : World} {A : Option Addr} {n : Nat} {l : List (Int × Int)} (h : Rd encP 2 w A n l) {i : Nat} (hi : i < n) :
    ∃ x y b o, Hid (l[i]? = some (x, y)) ∧ A = some ⟨b, o, none⟩ ∧ b < w.heap.size ∧ w.cell? ⟨b, o + i * 2, none⟩ = some (.int .i64 x) ∧ w.cell? ⟨b, o + i * 2 + 1, none⟩ = some (.int .i64 y) := by
  obtain ⟨p, b, o, h1, h2, h3, h4⟩ := h.elem hi
  exact ⟨p.1, p.2, b, o, h1, h2, h3, by simpa using h4 0 _ rfl, h4 1 _ rfl⟩
theorem Rd.cell {w : World} {A : Option Addr} {n : Nat} {l : List (Int × Int × Int)} (h : Rd encC 3 w A n l) {i : Nat} (hi : i < n) :
    ∃ x y s b o, Hid (l[i]? = some (x, y, s)) ∧ A = some ⟨b, o, none⟩ ∧ b < w.heap.size ∧ w.cell? ⟨b, o + i * 3, none⟩ = some (.int .i64 x) ∧ w.cell? ⟨b, o + i * 3 + 1, none⟩ = some (.int .i64 y) ∧ w.cell? ⟨b, o + i * 3 + 2, none⟩ = some (.int .i64 s) := by
  obtain ⟨p, b, o, h1, h2, h3, h4⟩ := h.elem hi
  exact ⟨p.1, p.2.1, p.2.2, b, o, h1, h2, h3, by simpa using h4 0 _ rfl, h4 1 _ rfl, h4 2 _ rfl⟩
end Go.Proofs.Ytnhnkmppmicjoaa
