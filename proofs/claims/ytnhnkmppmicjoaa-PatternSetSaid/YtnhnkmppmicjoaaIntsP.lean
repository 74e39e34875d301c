/- Plain facts on lists: membership and equality as the programs test them. -/
import Derived.WalkKit
namespace Go.Proofs.Ytnhnkmppmicjoaa
open Go Go.RowKit
set_option linter.unusedSimpArgs false
set_option linter.unusedVariables false
def hasI (l : List Int) (m : Int) : Bool := l.contains m
theorem contains_step {l : List Int} {i : Nat} {x m : Int} (h : ∀ j, j < i → l[j]? ≠ some m) (hx : l[i]? = some x) (hne : x ≠ m) : ∀ j, j < i + 1 → l[j]? ≠ some m := by
  intro j hj
  by_cases e : j = i
  · rw [e, hx]; intro h'; exact hne (Option.some.inj h')
  · exact h j (by omega)
theorem contains_none {l : List Int} {n : Nat} {m : Int} (hl : l.length = n) (h : ∀ j, j < n → l[j]? ≠ some m) : hasI l m = false := by
  unfold hasI
  rw [Bool.eq_false_iff]
  intro hc
  have hm : m ∈ l := by simpa using hc
  obtain ⟨i, hi, e⟩ := List.getElem_of_mem hm
  exact h i (by omega) (by rw [List.getElem?_eq_getElem hi, e])
theorem contains_some {l : List Int} {i : Nat} {m : Int} (hx : l[i]? = some m) : hasI l m = true := by
  unfold hasI
  have : m ∈ l := List.mem_of_getElem? hx
  simpa using this
def sameL {α : Type} [DecidableEq α] (a b : List α) : Bool := decide (a = b)
theorem sameL_len {α : Type} [DecidableEq α] {a b : List α} {n m : Nat} (ha : a.length = n) (hb : b.length = m) (h : n ≠ m) : sameL a b = false :=
  decide_eq_false fun e => h (by rw [← ha, ← hb, e])
theorem sameL_ne {α : Type} [DecidableEq α] {a b : List α} {j : Nat} {x y : α} (hx : a[j]? = some x) (hy : b[j]? = some y) (h : x ≠ y) : sameL a b = false :=
  decide_eq_false fun e => h (by rw [e, hy] at hx; exact (Option.some.inj hx).symm)
theorem sameL_all {α : Type} [DecidableEq α] {a b : List α} {n : Nat} (ha : a.length = n) (hb : b.length = n) (h : ∀ i, i < n → a[i]? = b[i]?) : sameL a b = true :=
  decide_eq_true (List.ext_getElem? fun i => by
    by_cases hi : i < n
    · exact h i hi
    · rw [List.getElem?_eq_none (by omega), List.getElem?_eq_none (by omega)])
theorem same_step {α : Type} {a b : List α} {j : Nat} (h : ∀ i, i < j → a[i]? = b[i]?) (hj : a[j]? = b[j]?) : ∀ i, i < j + 1 → a[i]? = b[i]? := by
  intro i hi
  by_cases e : i = j
  · rw [e]; exact hj
  · exact h i (by omega)
theorem hasI_iff {l : List Int} {m : Int} : hasI l m = true ↔ m ∈ l := by unfold hasI; simp
theorem hasI_no {l : List Int} {m : Int} (h : hasI l m = false) : m ∉ l := fun hm => by rw [hasI_iff.2 hm] at h; cases h
/-- A list without repetition of numbers below n has at most n of them. -/
theorem nodup_len : ∀ (n : Nat) (L : List Int), L.Nodup → (∀ x, x ∈ L → ∃ k : Nat, x = (k : Int) ∧ k < n) → L.length ≤ n
  | 0, L, _, h => by
    cases L with
    | nil => simp
    | cons y L => obtain ⟨k, _, hk⟩ := h y (by simp); omega
  | n + 1, L, hd, h => by
    have h1 := nodup_len n (L.erase (n : Int)) (hd.erase _) fun x hx => by
      rw [hd.mem_erase_iff] at hx
      obtain ⟨k, rfl, hk⟩ := h x hx.2
      exact ⟨k, rfl, by omega⟩
    have h2 := List.length_erase (a := (n : Int)) (l := L)
    split at h2 <;> omega
end Go.Proofs.Ytnhnkmppmicjoaa
