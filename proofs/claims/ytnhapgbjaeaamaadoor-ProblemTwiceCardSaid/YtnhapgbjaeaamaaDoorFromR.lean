/- The contracts of the reference's insert and From. -/
import Derived.Test.YtnhapgbjaeaamaaDoorMEM
import Derived.Test.YtnhapgbjaeaamaaDoorFrom
namespace Go.Proofs.YtnhapgbjaeaamaaDoor
open Go Go.RowKit
set_option linter.unusedSimpArgs false
set_option linter.unusedVariables false
set_option maxRecDepth 100000
attribute [local go_sem ↓ high] eq_cl neq_cl eq_pt neq_pt
theorem insC_done : ∀ {q : List (Int × Int × Int)} {c d : Int × Int × Int} (r : List (Int × Int × Int)), d ∈ q → cBef c d = true → insC (q ++ r) c = insC q c ++ r
  | [], _, _, _, h, _ => by simp at h
  | x :: q, c, d, r, h, hb => by
    show (if cBef c x = true then c :: x :: (q ++ r) else x :: insC (q ++ r) c) = (if cBef c x = true then c :: x :: q else x :: insC q c) ++ r
    by_cases hc : cBef c x = true
    · rw [if_pos hc, if_pos hc]; rfl
    · rw [if_neg hc, if_neg hc]
      rcases List.mem_cons.1 h with rfl | hm
      · exact absurd hb hc
      · rw [insC_done r hm hb]; rfl
theorem insC_none : ∀ {q : List (Int × Int × Int)} {c : Int × Int × Int} (r : List (Int × Int × Int)), (∀ d, d ∈ q → cBef c d = false) → insC (q ++ r) c = q ++ insC r c
  | [], _, _, _ => rfl
  | x :: q, c, r, h => by
    show (if cBef c x = true then c :: x :: (q ++ r) else x :: insC (q ++ r) c) = x :: (q ++ insC r c)
    rw [if_neg (by rw [h x (by simp)]; simp), insC_none r fun d hd => h d (by simp [hd])]
/-- What the loop has put out ahead of j. -/
def insAt (p : List (Int × Int × Int)) (c : Int × Int × Int) (q : Bool) (j : Nat) : List (Int × Int × Int) := if q = true then insC (p.take j) c else p.take j
def dnAt (p : List (Int × Int × Int)) (c : Int × Int × Int) (j : Nat) : Bool := (p.take j).any fun d => cBef c d
theorem dnAt_step {p : List (Int × Int × Int)} {c d : Int × Int × Int} {j : Nat} (h : p[j]? = some d) : dnAt p c (j + 1) = (dnAt p c j || cBef c d) := by
  unfold dnAt; rw [List.take_add_one, List.any_append, h]; simp
theorem insAt_done {p : List (Int × Int × Int)} {c d : Int × Int × Int} {j : Nat} (h : p[j]? = some d) (hq : dnAt p c j = true) : insAt p c true (j + 1) = insAt p c true j ++ [d] := by
  unfold insAt
  rw [if_pos rfl, if_pos rfl, List.take_add_one, h]
  unfold dnAt at hq
  obtain ⟨x, hx, hb⟩ := List.any_eq_true.1 hq
  exact insC_done _ hx hb
theorem dnAt_no {p : List (Int × Int × Int)} {c : Int × Int × Int} {j : Nat} (hq : dnAt p c j = false) : ∀ d, d ∈ p.take j → cBef c d = false := by
  intro d hd
  unfold dnAt at hq
  rw [List.any_eq_false] at hq
  simpa using hq d hd
theorem insAt_here {p : List (Int × Int × Int)} {c d : Int × Int × Int} {j : Nat} (h : p[j]? = some d) (hq : dnAt p c j = false) (hb : cBef c d = true) : insAt p c true (j + 1) = (insAt p c false j ++ [c]) ++ [d] := by
  unfold insAt
  rw [if_pos rfl, if_neg (by simp), List.take_add_one, h, insC_none _ (dnAt_no hq)]
  show p.take j ++ (if cBef c d = true then c :: d :: [] else d :: insC [] c) = _
  rw [if_pos hb]; simp
theorem insAt_past {p : List (Int × Int × Int)} {c d : Int × Int × Int} {j : Nat} (h : p[j]? = some d) : insAt p c false (j + 1) = insAt p c false j ++ [d] := by
  unfold insAt
  rw [if_neg (by simp), if_neg (by simp), List.take_add_one, h]; rfl
theorem insAt_end {p : List (Int × Int × Int)} {c : Int × Int × Int} {n : Nat} (hl : p.length = n) (q : Bool) (hq : dnAt p c n = q) : (if q = true then insAt p c true n else insAt p c false n ++ [c]) = insC p c := by
  have ht : p.take n = p := List.take_of_length_le (by omega)
  unfold insAt
  rw [ht]
  cases q with
  | true => rfl
  | false =>
    rw [if_neg (by simp), if_neg (by simp)]
    have := insC_none (q := p) (c := c) [] (by have := dnAt_no hq; rwa [ht] at this)
    rw [List.append_nil] at this
    rw [this]; rfl
theorem own_capR {α : Type} {enc : α → List Value} {k : Nat} {e : TypeId} {B n c : Nat} {w : World} {A : Option Addr} {l : List α} (h : Own enc k e B w A n c l) : n ≤ c := by
  rcases h.row.2 with ⟨h0, _⟩ | ⟨g, cap, cur, hv, hg, hh, h1, r⟩
  · injection h0 with _ e1 e2; omega
  · injection hv with _ e1 e2; omega
end Go.Proofs.YtnhapgbjaeaamaaDoor
