/- Valid neighbourhoods: plain facts. -/
import Derived.Test.YtnhnkmppmicjoaaPtsP
namespace Go.Proofs.Ytnhnkmppmicjoaa
open Go Go.RowKit
set_option linter.unusedSimpArgs false
set_option linter.unusedVariables false
def cmpI (a b : Int) : Int := if a < b then -1 else if b < a then 1 else 0
def orI (a b : Int) : Int := if a = 0 then b else a
def cmpP (ax ay bx bx' : Int) : Int := orI (cmpI ay bx') (cmpI ax bx)
def befP (ax ay bx bx' : Int) : Bool := decide (ay < bx' ∨ ay = bx' ∧ ax < bx)
theorem cmpP_bef (ax ay bx bx' : Int) : decide (0 ≤ cmpP ax ay bx bx') = !befP ax ay bx bx' := by
  unfold cmpP befP orI cmpI
  rw [Bool.eq_iff_iff]
  simp only [decide_eq_true_eq, Bool.not_eq_true', decide_eq_false_iff_not]
  repeat' split
  all_goals omega
def inR (n : Int) : Bool := decide (-2 ≤ n ∧ n ≤ 2)
/-- The element i is in range and behind the one ahead of it. -/
def okAt (l : List (Int × Int)) (i : Nat) : Bool := match l[i]? with
  | none => true
  | some p => inR p.1 && inR p.2 && (i == 0 || (match l[i - 1]? with | none => true | some q => befP q.1 q.2 p.1 p.2))
def rightL (l : List (Int × Int)) : Bool := decide (1 ≤ l.length ∧ l.length ≤ 25) && (List.range l.length).all (okAt l)
theorem rightL_len {l : List (Int × Int)} {n : Nat} (hl : l.length = n) (h : n < 1 ∨ 25 < n) : rightL l = false := by
  unfold rightL; rw [hl, decide_eq_false (by omega)]; rfl
theorem rightL_bad {l : List (Int × Int)} {n j : Nat} (hl : l.length = n) (hj : j < n) (h : okAt l j = false) : rightL l = false := by
  unfold rightL
  rw [hl, Bool.and_eq_false_iff]
  right
  rw [List.all_eq_false]
  exact ⟨j, by simpa using hj, by simp [h]⟩
theorem rightL_all {l : List (Int × Int)} {n : Nat} (hl : l.length = n) (h1 : 1 ≤ n) (h2 : n ≤ 25) (h : ∀ j, j < n → okAt l j = true) : rightL l = true := by
  unfold rightL
  rw [hl, decide_eq_true (by omega), Bool.true_and, List.all_eq_true]
  intro j hj
  exact h j (by simpa using hj)
theorem ok_step {l : List (Int × Int)} {j : Nat} (h : ∀ r, r < j → okAt l r = true) (hj : okAt l j = true) : ∀ r, r < j + 1 → okAt l r = true := by
  intro r hr
  by_cases e : r = j
  · rw [e]; exact hj
  · exact h r (by omega)
theorem okAt_out {l : List (Int × Int)} {j : Nat} {x y : Int} (hx : l[j]? = some (x, y)) (h : x < -2 ∨ 2 < x ∨ y < -2 ∨ 2 < y) : okAt l j = false := by
  unfold okAt
  rw [hx]
  have : (inR x && inR y) = false := by unfold inR; rw [Bool.eq_false_iff]; simp only [ne_eq, Bool.and_eq_true, decide_eq_true_eq]; omega
  simp only [this, Bool.false_and]
theorem okAt_first {l : List (Int × Int)} {x y : Int} (hx : l[0]? = some (x, y)) (h : -2 ≤ x ∧ x ≤ 2 ∧ -2 ≤ y ∧ y ≤ 2) : okAt l 0 = true := by
  unfold okAt
  rw [hx]
  have : (inR x && inR y) = true := by unfold inR; simp only [Bool.and_eq_true, decide_eq_true_eq]; omega
  simp only [this]; rfl
theorem okAt_next {l : List (Int × Int)} {j : Nat} {x y a b : Int} (hj : 0 < j) (hx : l[j]? = some (x, y)) (hp : l[j - 1]? = some (a, b)) (h : -2 ≤ x ∧ x ≤ 2 ∧ -2 ≤ y ∧ y ≤ 2) : okAt l j = befP a b x y := by
  unfold okAt
  rw [hx, hp]
  have h1 : (inR x && inR y) = true := by unfold inR; simp only [Bool.and_eq_true, decide_eq_true_eq]; omega
  have h2 : (j == 0) = false := by simp; omega
  simp only [h1, h2]; rfl
end Go.Proofs.Ytnhnkmppmicjoaa
