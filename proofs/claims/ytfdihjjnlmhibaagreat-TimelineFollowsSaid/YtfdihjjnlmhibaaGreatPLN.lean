/- Plain arithmetic of the eight symmetries: no program in sight. Plain facts on lists: membership and equality as the programs test them. Lists of positions: the first index of one. Valid neighbourhoods: plain facts. Plain arithmetic on positions and boxes: no program in sight. Plain facts on boxes: meet, join, grow, around, the positions of a box. No program in sight. Plain facts on patterns: lists of cells. No program in sight. Plain facts on boxes: positions of Meet and of Join; Grow there and back; the box around a box's positions. Plain facts on building patterns out of cells in any order. No program in sight. Plain laws on patterns: moving back, states after setting and building, the order. No program in sight. Plain: things at positions, in the order of their positions, each position once. No program in sight. Plain: lists of changes of patterns. No program in sight. Plain: laws of changes: what is applied, back and forth. No program in sight. Plain: timelines. A frame is a generation, whether it is whole, its cells, its changes. No program in sight. Plain facts on the algebra of patterns: what its functions and their references compute, and its laws. No program in sight. Plain facts on connected parts of a list of cells. No program in sight. Plain: valid rule trees and what they answer. No program in sight. Plain: the next generation of a pattern under a quiet rule. No program in sight. Plain: errors, runs, moves, and patterns far apart under a quiet rule. No program in sight. Plain: what the calls on timelines answer, and their laws. No program in sight. Plain: patterns far apart evolve each for itself. No program in sight. Plain: the positions that the reference of a generation examines. No program in sight. Plain: a pattern as a function of the position, as a map is filled with it. No program in sight. Plain facts on the group of the eight symmetries: no program in sight. -/
import Derived.WalkKit
import Derived.Laws.BitsLemmas
set_option linter.unusedSimpArgs false
set_option linter.unusedVariables false
section
namespace Go.Proofs.YtfdihjjnlmhibaaGreat
open Go Go.RowKit
def firstAt (p : Nat → Bool) : Nat → Int
  | 0 => -1
  | n + 1 => match firstAt p n with
    | -1 => if p n then n else -1
    | r => r
theorem firstAt_none {p : Nat → Bool} : ∀ {n : Nat}, (∀ i, i < n → p i = false) → firstAt p n = -1
  | 0, _ => rfl
  | n + 1, h => by
    have h1 := firstAt_none (p := p) (n := n) (fun i hi => h i (by omega))
    simp [firstAt, h1, h n (by omega)]
theorem firstAt_nonneg {p : Nat → Bool} {i : Nat} (hi : p i = true) (hj : ∀ j, j < i → p j = false) : ∀ {n : Nat}, i < n → firstAt p n = (i : Int)
  | 0, h => absurd h (by omega)
  | n + 1, h => by
    by_cases e : i = n
    · subst e
      have h1 := firstAt_none (p := p) (n := i) hj
      simp [firstAt, h1, hi]
    · have h1 := firstAt_nonneg hi hj (n := n) (by omega)
      simp only [firstAt, h1]
      split
      · rename_i h2; omega
      · rename_i h2; rfl
def mat (r j : Nat) : Int := [1, 0, 0, 1, 0, -1, 1, 0, -1, 0, 0, -1, 0, 1, -1, 0, -1, 0, 0, 1, 0, -1, -1, 0, 1, 0, 0, -1, 0, 1, 1, 0].getD (r * 4 + j) 0
def r8 (k : Int) : Nat := (k % 8).toNat
def app (k x y : Int) : Int × Int :=
  (wrap64 (wrap64 (mat (r8 k) 0 * x) + wrap64 (mat (r8 k) 1 * y)), wrap64 (wrap64 (mat (r8 k) 2 * x) + wrap64 (mat (r8 k) 3 * y)))
def matP (a b c d : Int) (r : Nat) : Bool := decide (mat r 0 = a ∧ mat r 1 = b ∧ mat r 2 = c ∧ mat r 3 = d)
def matIx (a b c d : Int) : Int := firstAt (matP a b c d) 8
theorem first_step {p : Nat → Bool} {j : Nat} (h : ∀ r, r < j → p r = false) (hj : p j = false) : ∀ r, r < j + 1 → p r = false := by
  intro r hr
  by_cases e : r = j
  · rw [e]; exact hj
  · exact h r (by omega)
def comp (a b : Int) : Int :=
  let x := app b (app a 1 0).1 (app a 1 0).2
  let y := app b (app a 0 1).1 (app a 0 1).2
  matIx x.1 y.1 x.2 y.2
def invP (k : Int) (i : Nat) : Bool := decide (comp k i = 0)
def orZero (r : Int) : Int := if r = -1 then 0 else r
def inv (k : Int) : Int := orZero (firstAt (invP k) 8)

def I64 (n : Int) : Prop := -9223372036854775808 ≤ n ∧ n ≤ 9223372036854775807
end Go.Proofs.YtfdihjjnlmhibaaGreat
end
section
namespace Go.Proofs.YtfdihjjnlmhibaaGreat
open Go Go.RowKit
def hasI (l : List Int) (m : Int) : Bool := l.contains m
def sameL {α : Type} [DecidableEq α] (a b : List α) : Bool := decide (a = b)
theorem sameL_len {α : Type} [DecidableEq α] {a b : List α} {n m : Nat} (ha : a.length = n) (hb : b.length = m) (h : n ≠ m) : sameL a b = false :=
  decide_eq_false fun e => h (by rw [← ha, ← hb, e])
theorem sameL_ne {α : Type} [DecidableEq α] {a b : List α} {j : Nat} {x y : α} (hx : a[j]? = some x) (hy : b[j]? = some y) (h : x ≠ y) : sameL a b = false :=
  decide_eq_false fun e => h (by rw [e, hy] at hx; exact (Option.some.inj hx).symm)
theorem sameL_all {α : Type} [DecidableEq α] {a b : List α} {n : Nat} (ha : a.length = n) (hb : b.length = n) (h : ∀ i, i < n → a[i]? = b[i]?) : sameL a b = true :=
  decide_eq_true (List.ext_getElem? fun i => by
    by_cases hi : i < n
    · exact h i hi
    · rw [List.getElem?_eq_none (by omega), List.getElem?_eq_none (by omega)])
theorem same_step {α : Type} {a b : List α} {j : Nat} (h : ∀ i, i < j → a[i]? = b[i]?) (hj : a[j]? = b[j]?) : ∀ i, i < j + 1 → a[i]? = b[i]? := by
  intro i hi
  by_cases e : i = j
  · rw [e]; exact hj
  · exact h i (by omega)
theorem hasI_iff {l : List Int} {m : Int} : hasI l m = true ↔ m ∈ l := by unfold hasI; simp
theorem hasI_no {l : List Int} {m : Int} (h : hasI l m = false) : m ∉ l := fun hm => by rw [hasI_iff.2 hm] at h; cases h
theorem nodup_len : ∀ (n : Nat) (L : List Int), L.Nodup → (∀ x, x ∈ L → ∃ k : Nat, x = (k : Int) ∧ k < n) → L.length ≤ n
  | 0, L, _, h => by
    cases L with
    | nil => simp
    | cons y L => obtain ⟨k, _, hk⟩ := h y (by simp); omega
  | n + 1, L, hd, h => by
    have h1 := nodup_len n (L.erase (n : Int)) (hd.erase _) fun x hx => by
      rw [hd.mem_erase_iff] at hx
      obtain ⟨k, rfl, hk⟩ := h x hx.2
      exact ⟨k, rfl, by omega⟩
    have h2 := List.length_erase (a := (n : Int)) (l := L)
    split at h2 <;> omega
end Go.Proofs.YtfdihjjnlmhibaaGreat
end
section
namespace Go.Proofs.YtfdihjjnlmhibaaGreat
open Go Go.RowKit
def isAt (l : List (Int × Int)) (x y : Int) (i : Nat) : Bool := decide (l[i]? = some (x, y))
def idxP (l : List (Int × Int)) (x y : Int) : Int := firstAt (isAt l x y) l.length
theorem isAt_no {l : List (Int × Int)} {x y a b : Int} {i : Nat} (h : l[i]? = some (a, b)) (hne : ¬a = x ∨ ¬b = y) : isAt l x y i = false := by
  unfold isAt; rw [h]; simp; intro h1; rcases hne with h2 | h2
  · exact absurd h1 h2
  · exact h2
theorem isAt_yes {l : List (Int × Int)} {x y : Int} {i : Nat} (h : l[i]? = some (x, y)) : isAt l x y i = true := by
  unfold isAt; rw [h]; simp
theorem idxP_found {l : List (Int × Int)} {n : Nat} {x y : Int} {i : Nat} (hl : l.length = n) (hi : i < n) (h : l[i]? = some (x, y)) (hno : ∀ r, r < i → isAt l x y r = false) : (i : Int) = idxP l x y := by
  unfold idxP; rw [hl]; exact (firstAt_nonneg (isAt_yes h) hno hi).symm
theorem idxP_none {l : List (Int × Int)} {n : Nat} {x y : Int} (hl : l.length = n) (hno : ∀ r, r < n → isAt l x y r = false) : (-1 : Int) = idxP l x y := by
  unfold idxP; rw [hl]; exact (firstAt_none hno).symm
end Go.Proofs.YtfdihjjnlmhibaaGreat
end
section
namespace Go.Proofs.YtfdihjjnlmhibaaGreat
open Go Go.RowKit
def cmpI (a b : Int) : Int := if a < b then -1 else if b < a then 1 else 0
def orI (a b : Int) : Int := if a = 0 then b else a
def cmpP (ax ay bx bx' : Int) : Int := orI (cmpI ay bx') (cmpI ax bx)
def befP (ax ay bx bx' : Int) : Bool := decide (ay < bx' ∨ ay = bx' ∧ ax < bx)
theorem cmpP_bef (ax ay bx bx' : Int) : decide (0 ≤ cmpP ax ay bx bx') = !befP ax ay bx bx' := by
  unfold cmpP befP orI cmpI
  rw [Bool.eq_iff_iff]
  simp only [decide_eq_true_eq, Bool.not_eq_true', decide_eq_false_iff_not]
  repeat' split
  all_goals omega
def inR (n : Int) : Bool := decide (-2 ≤ n ∧ n ≤ 2)
/-- The element i is in range and behind the one ahead of it. -/
def okAt (l : List (Int × Int)) (i : Nat) : Bool := match l[i]? with
  | none => true
  | some p => inR p.1 && inR p.2 && (i == 0 || (match l[i - 1]? with | none => true | some q => befP q.1 q.2 p.1 p.2))
def rightL (l : List (Int × Int)) : Bool := decide (1 ≤ l.length ∧ l.length ≤ 25) && (List.range l.length).all (okAt l)
theorem rightL_len {l : List (Int × Int)} {n : Nat} (hl : l.length = n) (h : n < 1 ∨ 25 < n) : rightL l = false := by
  unfold rightL; rw [hl, decide_eq_false (by omega)]; rfl
theorem rightL_bad {l : List (Int × Int)} {n j : Nat} (hl : l.length = n) (hj : j < n) (h : okAt l j = false) : rightL l = false := by
  unfold rightL
  rw [hl, Bool.and_eq_false_iff]
  right
  rw [List.all_eq_false]
  exact ⟨j, by simpa using hj, by simp [h]⟩
theorem rightL_all {l : List (Int × Int)} {n : Nat} (hl : l.length = n) (h1 : 1 ≤ n) (h2 : n ≤ 25) (h : ∀ j, j < n → okAt l j = true) : rightL l = true := by
  unfold rightL
  rw [hl, decide_eq_true (by omega), Bool.true_and, List.all_eq_true]
  intro j hj
  exact h j (by simpa using hj)
theorem ok_step {l : List (Int × Int)} {j : Nat} (h : ∀ r, r < j → okAt l r = true) (hj : okAt l j = true) : ∀ r, r < j + 1 → okAt l r = true := by
  intro r hr
  by_cases e : r = j
  · rw [e]; exact hj
  · exact h r (by omega)
theorem okAt_out {l : List (Int × Int)} {j : Nat} {x y : Int} (hx : l[j]? = some (x, y)) (h : x < -2 ∨ 2 < x ∨ y < -2 ∨ 2 < y) : okAt l j = false := by
  unfold okAt
  rw [hx]
  have : (inR x && inR y) = false := by unfold inR; rw [Bool.eq_false_iff]; simp only [ne_eq, Bool.and_eq_true, decide_eq_true_eq]; omega
  simp only [this, Bool.false_and]
theorem okAt_first {l : List (Int × Int)} {x y : Int} (hx : l[0]? = some (x, y)) (h : -2 ≤ x ∧ x ≤ 2 ∧ -2 ≤ y ∧ y ≤ 2) : okAt l 0 = true := by
  unfold okAt
  rw [hx]
  have : (inR x && inR y) = true := by unfold inR; simp only [Bool.and_eq_true, decide_eq_true_eq]; omega
  simp only [this]; rfl
theorem okAt_next {l : List (Int × Int)} {j : Nat} {x y a b : Int} (hj : 0 < j) (hx : l[j]? = some (x, y)) (hp : l[j - 1]? = some (a, b)) (h : -2 ≤ x ∧ x ≤ 2 ∧ -2 ≤ y ∧ y ≤ 2) : okAt l j = befP a b x y := by
  unfold okAt
  rw [hx, hp]
  have h1 : (inR x && inR y) = true := by unfold inR; simp only [Bool.and_eq_true, decide_eq_true_eq]; omega
  have h2 : (j == 0) = false := by simp; omega
  simp only [h1, h2]; rfl
end Go.Proofs.YtfdihjjnlmhibaaGreat
end
section
namespace Go.Proofs.YtfdihjjnlmhibaaGreat
open Go Go.RowKit
def validB (x y : Int) : Bool := decide (-1048576 ≤ x ∧ x ≤ 1048576 ∧ -1048576 ≤ y ∧ y ≤ 1048576)
end Go.Proofs.YtfdihjjnlmhibaaGreat
end
section
namespace Go.Proofs.YtfdihjjnlmhibaaGreat
open Go Go.RowKit
def Pt (x y : Int) : Prop := -1048576 ≤ x ∧ x ≤ 1048576 ∧ -1048576 ≤ y ∧ y ≤ 1048576
def ifB (q : Bool) (n : Int) : Int := if q = true then n else 0
def okP (p : Int × Int) : Bool := validB p.1 p.2
def arOk (l : List (Int × Int)) : Bool := !l.isEmpty && l.all okP
def loX (l : List (Int × Int)) (d : Int) : Int := l.foldl (fun m p => min m p.1) d
def loY (l : List (Int × Int)) (d : Int) : Int := l.foldl (fun m p => min m p.2) d
def hiX (l : List (Int × Int)) (d : Int) : Int := l.foldl (fun m p => max m p.1) d
def hiY (l : List (Int × Int)) (d : Int) : Int := l.foldl (fun m p => max m p.2) d
def fstX (l : List (Int × Int)) : Int := match l with | [] => 0 | p :: _ => p.1
def fstY (l : List (Int × Int)) : Int := match l with | [] => 0 | p :: _ => p.2
def arX (l : List (Int × Int)) : Int := ifB (arOk l) (loX l (fstX l))
def arY (l : List (Int × Int)) : Int := ifB (arOk l) (loY l (fstY l))
def arW (l : List (Int × Int)) : Int := ifB (arOk l) (hiX l (fstX l) - loX l (fstX l) + 1)
def arH (l : List (Int × Int)) : Int := ifB (arOk l) (hiY l (fstY l) - loY l (fstY l) + 1)
section
variable {l : List (Int × Int)} {j : Nat} {x y d : Int}
theorem loX_step (h : l[j]? = some (x, y)) : loX (l.take (j + 1)) d = min (loX (l.take j) d) x := by
  unfold loX; rw [List.take_add_one, List.foldl_append, h]; rfl
theorem loY_step (h : l[j]? = some (x, y)) : loY (l.take (j + 1)) d = min (loY (l.take j) d) y := by
  unfold loY; rw [List.take_add_one, List.foldl_append, h]; rfl
theorem hiX_step (h : l[j]? = some (x, y)) : hiX (l.take (j + 1)) d = max (hiX (l.take j) d) x := by
  unfold hiX; rw [List.take_add_one, List.foldl_append, h]; rfl
theorem hiY_step (h : l[j]? = some (x, y)) : hiY (l.take (j + 1)) d = max (hiY (l.take j) d) y := by
  unfold hiY; rw [List.take_add_one, List.foldl_append, h]; rfl
end
theorem fst_of {l : List (Int × Int)} {x y : Int} (h : l[0]? = some (x, y)) : fstX l = x ∧ fstY l = y := by
  cases l with
  | nil => simp at h
  | cons p l => simp at h; subst h; exact ⟨rfl, rfl⟩
theorem arOk_all {l : List (Int × Int)} {n : Nat} (hl : l.length = n) (h0 : 0 < n) (h : ∀ j x y, j < n → l[j]? = some (x, y) → validB x y = true) : arOk l = true := by
  unfold arOk
  rw [Bool.and_eq_true, List.all_eq_true]
  refine ⟨by (cases l with | nil => (simp at hl; omega) | cons _ _ => rfl), fun p hp => ?_⟩
  obtain ⟨i, hi, e⟩ := List.getElem_of_mem hp
  exact h i p.1 p.2 (by omega) (by rw [List.getElem?_eq_getElem hi, e])
theorem lo_bound : ∀ (l : List (Int × Int)) (d : Int), (∀ p, p ∈ l → Pt p.1 p.2) → (-1048576 ≤ d ∧ d ≤ 1048576) →
    (-1048576 ≤ loX l d ∧ loX l d ≤ 1048576) ∧ (-1048576 ≤ loY l d ∧ loY l d ≤ 1048576) ∧ (-1048576 ≤ hiX l d ∧ hiX l d ≤ 1048576) ∧ (-1048576 ≤ hiY l d ∧ hiY l d ≤ 1048576)
  | [], d, _, h => ⟨h, h, h, h⟩
  | p :: l, d, hp, h => by
    have hpp := hp p (by simp)
    unfold Pt at hpp
    have h1 := lo_bound l (min d p.1) (fun q hq => hp q (by simp [hq])) (by omega)
    have h2 := lo_bound l (min d p.2) (fun q hq => hp q (by simp [hq])) (by omega)
    have h3 := lo_bound l (max d p.1) (fun q hq => hp q (by simp [hq])) (by omega)
    have h4 := lo_bound l (max d p.2) (fun q hq => hp q (by simp [hq])) (by omega)
    exact ⟨h1.1, h2.2.1, h3.2.2.1, h4.2.2.2⟩
theorem validB_iff {x y : Int} : validB x y = true ↔ Pt x y := by unfold validB Pt; simp
end Go.Proofs.YtfdihjjnlmhibaaGreat
end
section
namespace Go.Proofs.YtfdihjjnlmhibaaGreat
open Go Go.RowKit
def cBef (a b : Int × Int × Int) : Bool := befP a.1 a.2.1 b.1 b.2.1
def cmpO (a b : Int × Int × Int) : Int := cmpP a.1 a.2.1 b.1 b.2.1
def okC (l : List (Int × Int × Int)) (i : Nat) : Bool := match l[i]? with
  | none => true
  | some p => validB p.1 p.2.1 && decide (1 ≤ p.2.2 ∧ p.2.2 ≤ 7) && (i == 0 || (match l[i - 1]? with | none => true | some q => cBef q p))
def rightC (l : List (Int × Int × Int)) : Bool := decide (l.length ≤ 5000) && (List.range l.length).all (okC l)
section
variable {l : List (Int × Int × Int)} {n j : Nat} {x y s a b c : Int}
theorem rightC_len (hl : l.length = n) (h : 5000 < n) : rightC l = false := by
  unfold rightC; rw [hl, decide_eq_false (by omega)]; rfl
theorem rightC_bad (hl : l.length = n) (hj : j < n) (h : okC l j = false) : rightC l = false := by
  unfold rightC
  rw [hl, Bool.and_eq_false_iff]
  right
  rw [List.all_eq_false]
  exact ⟨j, by simpa using hj, by simp [h]⟩
theorem rightC_all (hl : l.length = n) (h2 : n ≤ 5000) (h : ∀ j, j < n → okC l j = true) : rightC l = true := by
  unfold rightC
  rw [hl, decide_eq_true (by omega), Bool.true_and, List.all_eq_true]
  intro j hj
  exact h j (by simpa using hj)
theorem okC_step (h : ∀ r, r < j → okC l r = true) (hj : okC l j = true) : ∀ r, r < j + 1 → okC l r = true := by
  intro r hr
  by_cases e : r = j
  · rw [e]; exact hj
  · exact h r (by omega)
theorem okC_place (hx : l[j]? = some (x, y, s)) (h : validB x y = false) : okC l j = false := by
  unfold okC; rw [hx]; simp only [h, Bool.false_and]
theorem okC_state (hx : l[j]? = some (x, y, s)) (h : s < 1 ∨ 7 < s) : okC l j = false := by
  unfold okC; rw [hx]
  have : decide (1 ≤ s ∧ s ≤ 7) = false := decide_eq_false (by omega)
  simp only [this, Bool.and_false, Bool.false_and]
theorem okC_first (hx : l[0]? = some (x, y, s)) (hv : validB x y = true) (h : 1 ≤ s ∧ s ≤ 7) : okC l 0 = true := by
  unfold okC; rw [hx]
  have : decide (1 ≤ s ∧ s ≤ 7) = true := decide_eq_true h
  simp only [this, hv]; rfl
theorem okC_next (hj : 0 < j) (hx : l[j]? = some (x, y, s)) (hp : l[j - 1]? = some (a, b, c)) (hv : validB x y = true) (h : 1 ≤ s ∧ s ≤ 7) : okC l j = befP a b x y := by
  unfold okC; rw [hx, hp]
  have h1 : decide (1 ≤ s ∧ s ≤ 7) = true := decide_eq_true h
  have h2 : (j == 0) = false := by simp; omega
  simp only [h1, hv, h2]; rfl
theorem rightC_ok (h : rightC l = true) : l.length ≤ 5000 ∧ ∀ j, okC l j = true := by
  unfold rightC at h
  rw [Bool.and_eq_true, List.all_eq_true, decide_eq_true_eq] at h
  refine ⟨h.1, fun j => ?_⟩
  by_cases hj : j < l.length
  · exact h.2 j (by simpa using hj)
  · unfold okC; rw [List.getElem?_eq_none (by omega)]
theorem rightC_elem (h : rightC l = true) (hx : l[j]? = some (x, y, s)) : Pt x y ∧ 1 ≤ s ∧ s ≤ 7 := by
  have := (rightC_ok h).2 j
  unfold okC at this
  rw [hx] at this
  simp only [Bool.and_eq_true, decide_eq_true_eq] at this
  exact ⟨validB_iff.1 this.1.1, this.1.2.1, this.1.2.2⟩
end
theorem cBef_irr (a : Int × Int × Int) : cBef a a = false := by unfold cBef befP; exact decide_eq_false (by omega)
theorem cBef_tr {a b c : Int × Int × Int} (h1 : cBef a b = true) (h2 : cBef b c = true) : cBef a c = true := by
  unfold cBef befP at *; simp only [decide_eq_true_eq] at *; omega
def SSC (l : List (Int × Int × Int)) : Prop := l.Pairwise fun a b => cBef a b = true
theorem pairwise_of_next {α : Type} {r : α → α → Prop} (tr : ∀ a b c, r a b → r b c → r a c) : ∀ (l : List α), (∀ j a b, l[j]? = some a → l[j + 1]? = some b → r a b) → l.Pairwise r
  | [], _ => List.Pairwise.nil
  | [a], _ => by simp
  | a :: b :: l, h => by
    have ih := pairwise_of_next tr (b :: l) (fun j x y hx hy => h (j + 1) x y (by simpa using hx) (by simpa using hy))
    refine List.pairwise_cons.2 ⟨fun x hx => ?_, ih⟩
    have hab : r a b := h 0 a b rfl rfl
    rcases List.mem_cons.1 hx with rfl | hm
    · exact hab
    · exact tr _ _ _ hab ((List.pairwise_cons.1 ih).1 x hm)
theorem rightC_sorted {l : List (Int × Int × Int)} (h : rightC l = true) : SSC l := by
  refine pairwise_of_next (r := fun a b => cBef a b = true) (fun a b c h1 h2 => cBef_tr h1 h2) l fun j p q hp hq => ?_
  have := (rightC_ok h).2 (j + 1)
  unfold okC at this
  rw [hq, show j + 1 - 1 = j by omega, hp] at this
  simp only [Bool.and_eq_true, Bool.or_eq_true] at this
  rcases this.2 with h0 | h0
  · simp at h0
  · exact h0
theorem rightC_of {l : List (Int × Int × Int)} (h1 : l.length ≤ 5000) (h2 : ∀ p, p ∈ l → Pt p.1 p.2.1 ∧ 1 ≤ p.2.2 ∧ p.2.2 ≤ 7) (h3 : SSC l) : rightC l = true := by
  refine rightC_all rfl h1 fun j hj => ?_
  obtain ⟨p, hp⟩ : ∃ p, p = l[j] := ⟨_, rfl⟩
  obtain ⟨x, y, s⟩ := p
  have hx : l[j]? = some (x, y, s) := by rw [List.getElem?_eq_getElem hj, ← hp]
  have hm := h2 _ (List.mem_of_getElem? hx)
  have hv := validB_iff.2 hm.1
  rcases Nat.eq_zero_or_pos j with rfl | h0
  · exact okC_first hx hv hm.2
  · have hj1 : j - 1 < l.length := by omega
    obtain ⟨q, hq⟩ : ∃ q, q = l[j - 1] := ⟨_, rfl⟩
    obtain ⟨a, b, c⟩ := q
    have hy : l[j - 1]? = some (a, b, c) := by rw [List.getElem?_eq_getElem hj1, ← hq]
    rw [okC_next h0 hx hy hv hm.2]
    have := (List.pairwise_iff_getElem.1 h3) (j - 1) j (by omega) hj (by omega)
    rw [← hp, ← hq] at this
    exact this
def getC : List (Int × Int × Int) → Int → Int → Int
  | [], _, _ => 0
  | c :: l, x, y => if c.1 = x ∧ c.2.1 = y then c.2.2 else getC l x y
theorem getC_found : ∀ {l : List (Int × Int × Int)} {j : Nat} {x y s : Int}, (∀ r a b c, r < j → l[r]? = some (a, b, c) → ¬(a = x ∧ b = y)) → l[j]? = some (x, y, s) → getC l x y = s
  | [], j, x, y, s, _, h => by simp at h
  | c :: l, 0, x, y, s, _, h => by
    have e : c = (x, y, s) := by simpa using h
    subst e; simp [getC]
  | c :: l, j + 1, x, y, s, hn, h => by
    have h0 := hn 0 c.1 c.2.1 c.2.2 (by omega) rfl
    unfold getC
    rw [if_neg h0]
    exact getC_found (fun r a b d hr hx => hn (r + 1) a b d (Nat.succ_lt_succ hr) (by simpa using hx)) (by simpa using h)
theorem getC_none : ∀ {l : List (Int × Int × Int)} {x y : Int}, (∀ (r : Nat) a b c, l[r]? = some (a, b, c) → ¬(a = x ∧ b = y)) → getC l x y = 0
  | [], _, _, _ => rfl
  | c :: l, x, y, h => by
    unfold getC
    rw [if_neg (h 0 c.1 c.2.1 c.2.2 rfl)]
    exact getC_none fun r a b d hx => h (r + 1) a b d (by simpa using hx)
def topC (l : List (Int × Int × Int)) : Int := l.foldl (fun m p => max m p.2.2) 0
theorem topC_step {l : List (Int × Int × Int)} {j : Nat} {x y s : Int} (h : l[j]? = some (x, y, s)) : topC (l.take (j + 1)) = max (topC (l.take j)) s := by
  unfold topC; rw [List.take_add_one, List.foldl_append, h]; rfl
def cmpC (a b : Int × Int × Int) : Int := orI (cmpO a b) (cmpI a.2.2 b.2.2)
def cmpL : List (Int × Int × Int) → List (Int × Int × Int) → Int
  | [], [] => 0
  | [], _ :: _ => -1
  | _ :: _, [] => 1
  | a :: l, b :: r => if a = b then cmpL l r else cmpC a b
theorem cmpC_zero {a b : Int × Int × Int} (h : cmpC a b = 0) : a = b := by
  obtain ⟨a1, a2, a3⟩ := a
  obtain ⟨b1, b2, b3⟩ := b
  unfold cmpC cmpO cmpP orI cmpI at h
  simp only [Prod.mk.injEq]
  simp only at h
  split at h <;> (repeat' split at h) <;> omega
theorem cmpL_skip : ∀ {l r : List (Int × Int × Int)} {j : Nat}, j ≤ l.length → j ≤ r.length → (∀ i, i < j → l[i]? = r[i]?) → cmpL l r = cmpL (l.drop j) (r.drop j)
  | l, r, 0, _, _, _ => rfl
  | [], r, j + 1, h, _, _ => by simp at h
  | a :: l, [], j + 1, _, h, _ => by simp at h
  | a :: l, b :: r, j + 1, h1, h2, h => by
    have e : a = b := by have := h 0 (by omega); simpa using this
    subst e
    show (if a = a then cmpL l r else cmpC a a) = cmpL (l.drop j) (r.drop j)
    rw [if_pos rfl]
    exact cmpL_skip (by simpa using h1) (by simpa using h2) fun i hi => by have := h (i + 1) (by omega); simpa using this
theorem cmpL_at {l r : List (Int × Int × Int)} {j : Nat} {a b : Int × Int × Int} (h : ∀ i, i < j → l[i]? = r[i]?) (ha : l[j]? = some a) (hb : r[j]? = some b) (hne : a ≠ b) : cmpL l r = cmpC a b := by
  have h1 := (List.getElem?_eq_some_iff.1 ha).1
  have h2 := (List.getElem?_eq_some_iff.1 hb).1
  rw [cmpL_skip (by omega) (by omega) h, List.drop_eq_getElem_cons h1, List.drop_eq_getElem_cons h2]
  unfold cmpL
  rw [(List.getElem?_eq_some_iff.1 ha).2, (List.getElem?_eq_some_iff.1 hb).2, if_neg hne]
theorem cmpL_end {l r : List (Int × Int × Int)} {n m j : Nat} (hl : l.length = n) (hr : r.length = m) (hj : j ≤ n) (hk : j ≤ m) (h : ∀ i, i < j → l[i]? = r[i]?) (he : j = n ∨ j = m) : cmpL l r = cmpI n m := by
  rw [cmpL_skip (by omega) (by omega) h]
  unfold cmpI
  rcases he with rfl | rfl
  · rw [List.drop_of_length_le (by omega)]
    by_cases e : j = m
    · rw [List.drop_of_length_le (by omega), if_neg (by omega), if_neg (by omega)]; rfl
    · rw [List.drop_eq_getElem_cons (by omega), if_pos (by omega)]; rfl
  · rw [List.drop_of_length_le (by omega : r.length ≤ j)]
    by_cases e : j = n
    · rw [List.drop_of_length_le (by omega), if_neg (by omega), if_neg (by omega)]; rfl
    · rw [List.drop_eq_getElem_cons (by omega), if_neg (by omega), if_pos (by omega)]; rfl
end Go.Proofs.YtfdihjjnlmhibaaGreat
end
section
namespace Go.Proofs.YtfdihjjnlmhibaaGreat
open Go Go.RowKit
section
variable {ax ay aw ah bx by' bw bh px py : Int}
end
theorem lo_le : ∀ (l : List (Int × Int)) (d m : Int), (∀ p, p ∈ l → m ≤ p.1) → m ≤ d → m ≤ loX l d
  | [], d, m, _, h => h
  | p :: l, d, m, hp, h => lo_le l (min d p.1) m (fun q hq => hp q (by simp [hq])) (by have := hp p (by simp); omega)
theorem loY_le : ∀ (l : List (Int × Int)) (d m : Int), (∀ p, p ∈ l → m ≤ p.2) → m ≤ d → m ≤ loY l d
  | [], d, m, _, h => h
  | p :: l, d, m, hp, h => loY_le l (min d p.2) m (fun q hq => hp q (by simp [hq])) (by have := hp p (by simp); omega)
theorem hi_le : ∀ (l : List (Int × Int)) (d m : Int), (∀ p, p ∈ l → p.1 ≤ m) → d ≤ m → hiX l d ≤ m
  | [], d, m, _, h => h
  | p :: l, d, m, hp, h => hi_le l (max d p.1) m (fun q hq => hp q (by simp [hq])) (by have := hp p (by simp); omega)
theorem hiY_le : ∀ (l : List (Int × Int)) (d m : Int), (∀ p, p ∈ l → p.2 ≤ m) → d ≤ m → hiY l d ≤ m
  | [], d, m, _, h => h
  | p :: l, d, m, hp, h => hiY_le l (max d p.2) m (fun q hq => hp q (by simp [hq])) (by have := hp p (by simp); omega)
theorem lo_low : ∀ (l : List (Int × Int)) (d : Int), loX l d ≤ d ∧ (∀ p, p ∈ l → loX l d ≤ p.1)
  | [], d => ⟨Int.le_refl _, fun p h => by simp at h⟩
  | q :: l, d => by
    have ih := lo_low l (min d q.1)
    refine ⟨by have := ih.1; show loX l (min d q.1) ≤ d; omega, fun p hp => ?_⟩
    rcases List.mem_cons.1 hp with rfl | h
    · have := ih.1; show loX l (min d p.1) ≤ p.1; omega
    · exact ih.2 p h
theorem loY_low : ∀ (l : List (Int × Int)) (d : Int), loY l d ≤ d ∧ (∀ p, p ∈ l → loY l d ≤ p.2)
  | [], d => ⟨Int.le_refl _, fun p h => by simp at h⟩
  | q :: l, d => by
    have ih := loY_low l (min d q.2)
    refine ⟨by have := ih.1; show loY l (min d q.2) ≤ d; omega, fun p hp => ?_⟩
    rcases List.mem_cons.1 hp with rfl | h
    · have := ih.1; show loY l (min d p.2) ≤ p.2; omega
    · exact ih.2 p h
theorem hi_high : ∀ (l : List (Int × Int)) (d : Int), d ≤ hiX l d ∧ (∀ p, p ∈ l → p.1 ≤ hiX l d)
  | [], d => ⟨Int.le_refl _, fun p h => by simp at h⟩
  | q :: l, d => by
    have ih := hi_high l (max d q.1)
    refine ⟨by have := ih.1; show d ≤ hiX l (max d q.1); omega, fun p hp => ?_⟩
    rcases List.mem_cons.1 hp with rfl | h
    · have := ih.1; show p.1 ≤ hiX l (max d p.1); omega
    · exact ih.2 p h
theorem hiY_high : ∀ (l : List (Int × Int)) (d : Int), d ≤ hiY l d ∧ (∀ p, p ∈ l → p.2 ≤ hiY l d)
  | [], d => ⟨Int.le_refl _, fun p h => by simp at h⟩
  | q :: l, d => by
    have ih := hiY_high l (max d q.2)
    refine ⟨by have := ih.1; show d ≤ hiY l (max d q.2); omega, fun p hp => ?_⟩
    rcases List.mem_cons.1 hp with rfl | h
    · have := ih.1; show p.2 ≤ hiY l (max d p.2); omega
    · exact ih.2 p h
end Go.Proofs.YtfdihjjnlmhibaaGreat
end
section
namespace Go.Proofs.YtfdihjjnlmhibaaGreat
open Go Go.RowKit
/-- What is wrong with one cell. -/
def frBad (c : Int × Int × Int) : Int := if validB c.1 c.2.1 = true then (if 0 ≤ c.2.2 ∧ c.2.2 ≤ 7 then 0 else 10) else 5
def frFirst : List (Int × Int × Int) → Int
  | [] => 0
  | c :: l => if frBad c = 0 then frFirst l else frBad c
theorem frFirst_bad : ∀ {l : List (Int × Int × Int)} {j : Nat} {c : Int × Int × Int} {e : Int}, (∀ i d, i < j → l[i]? = some d → frBad d = 0) → l[j]? = some c → frBad c = e → e ≠ 0 → frFirst l = e
  | [], j, c, e, _, h, _, _ => by simp at h
  | d :: l, 0, c, e, _, h, he, hn => by
    have : d = c := by simpa using h
    subst this
    unfold frFirst
    rw [he, if_neg hn]
  | d :: l, j + 1, c, e, hg, h, he, hn => by
    unfold frFirst
    rw [if_pos (hg 0 d (by omega) rfl)]
    exact frFirst_bad (fun i x hi hx => hg (i + 1) x (Nat.succ_lt_succ hi) (by simpa using hx)) (by simpa using h) he hn
theorem frFirst_good : ∀ {l : List (Int × Int × Int)}, (∀ (i : Nat) d, l[i]? = some d → frBad d = 0) → frFirst l = 0
  | [], _ => rfl
  | d :: l, hg => by
    unfold frFirst
    rw [if_pos (hg 0 d rfl)]
    exact frFirst_good fun i x hx => hg (i + 1) x (by simpa using hx)
/-- The cells with a state. -/
def nzC (c : Int × Int × Int) : Bool := decide (0 < c.2.2)
def nz (l : List (Int × Int × Int)) : List (Int × Int × Int) := l.filter nzC
theorem nz_step {l : List (Int × Int × Int)} {j : Nat} {c : Int × Int × Int} (h : l[j]? = some c) : nz (l.take (j + 1)) = nz (l.take j) ++ (if nzC c = true then [c] else []) := by
  unfold nz
  rw [List.take_add_one, List.filter_append, h]
  simp [List.filter_cons]
/-- Insertion behind those at the same position. -/
def insC : List (Int × Int × Int) → Int × Int × Int → List (Int × Int × Int)
  | [], c => [c]
  | d :: p, c => if cBef c d = true then c :: d :: p else d :: insC p c
def srtC (l : List (Int × Int × Int)) : List (Int × Int × Int) := l.foldl insC []
/-- No cell stands ahead of one that it is behind. -/
def WC (l : List (Int × Int × Int)) : Prop := l.Pairwise fun a b => cBef b a = false
theorem insC_perm : ∀ (p : List (Int × Int × Int)) (c : Int × Int × Int), (insC p c).Perm (c :: p)
  | [], c => List.Perm.refl _
  | d :: p, c => by
    unfold insC
    split
    · exact List.Perm.refl _
    · exact (List.Perm.cons d (insC_perm p c)).trans (List.Perm.swap c d p)
theorem cBef_asym {a b : Int × Int × Int} (h : cBef a b = true) : cBef b a = false := by
  unfold cBef befP at *; simp only [decide_eq_true_eq, decide_eq_false_iff_not] at *; omega
theorem cBef_weak {a b c : Int × Int × Int} (h1 : cBef a b = true) (h2 : cBef c b = false) : cBef c a = false := by
  unfold cBef befP at *; simp only [decide_eq_true_eq, decide_eq_false_iff_not] at *; omega
theorem insC_wc : ∀ (p : List (Int × Int × Int)) (c : Int × Int × Int), WC p → WC (insC p c)
  | [], c, _ => by simp [insC, WC]
  | d :: p, c, h => by
    unfold WC at h
    obtain ⟨h1, h2⟩ := List.pairwise_cons.1 h
    unfold insC
    split
    · rename_i hc
      refine List.pairwise_cons.2 ⟨fun x hx => ?_, h⟩
      rcases List.mem_cons.1 hx with rfl | hm
      · exact cBef_asym hc
      · exact cBef_weak hc (h1 x hm)
    · rename_i hc
      refine List.pairwise_cons.2 ⟨fun x hx => ?_, insC_wc p c h2⟩
      rcases List.mem_cons.1 ((insC_perm p c).mem_iff.1 hx) with rfl | hm
      · simpa using hc
      · exact h1 x hm
theorem srtC_aux : ∀ (l o : List (Int × Int × Int)), WC o → WC (l.foldl insC o) ∧ (l.foldl insC o).Perm (l ++ o)
  | [], o, h => ⟨h, List.Perm.refl _⟩
  | c :: l, o, h => by
    obtain ⟨h1, h2⟩ := srtC_aux l (insC o c) (insC_wc o c h)
    refine ⟨h1, h2.trans ?_⟩
    exact ((insC_perm o c).append_left l).trans List.perm_middle
theorem srtC_wc (l : List (Int × Int × Int)) : WC (srtC l) := (srtC_aux l [] List.Pairwise.nil).1
theorem srtC_perm (l : List (Int × Int × Int)) : (srtC l).Perm l := by
  have := (srtC_aux l [] List.Pairwise.nil).2
  simpa [srtC] using this
def posD (c : Int × Int × Int) : Int × Int := (c.1, c.2.1)
theorem ssc_iff {l : List (Int × Int × Int)} : SSC l ↔ WC l ∧ (l.map posD).Nodup := by
  unfold SSC WC List.Nodup
  rw [List.pairwise_map]
  constructor
  · intro h
    refine ⟨h.imp fun hab => cBef_asym hab, h.imp fun {a b} hab e => ?_⟩
    unfold posD at e
    injection e with e1 e2
    unfold cBef befP at hab
    simp only [decide_eq_true_eq] at hab
    omega
  · rintro ⟨h1, h2⟩
    rw [List.pairwise_iff_getElem] at *
    intro i j hi hj hij
    have a := h1 i j hi hj hij
    have b := h2 i j hi hj hij
    unfold posD at b
    unfold cBef befP at *
    simp only [decide_eq_true_eq, decide_eq_false_iff_not] at *
    rcases Classical.em (l[j].2.1 = l[i].2.1) with e | e
    · rcases Classical.em (l[j].1 = l[i].1) with f | f
      · exact absurd (by rw [e, f]) b
      · omega
    · omega
theorem ssc_unique : ∀ (a b : List (Int × Int × Int)), SSC a → SSC b → (∀ x, x ∈ a ↔ x ∈ b) → a = b
  | [], [], _, _, _ => rfl
  | [], y :: b, _, _, he => absurd ((he y).2 (by simp)) (by simp)
  | x :: a, [], _, _, he => absurd ((he x).1 (by simp)) (by simp)
  | x :: a, y :: b, ha, hb, he => by
    obtain ⟨h1, h2⟩ := List.pairwise_cons.1 ha
    obtain ⟨h3, h4⟩ := List.pairwise_cons.1 hb
    have hxy : x = y := by
      rcases List.mem_cons.1 ((he x).1 (by simp)) with e | hm
      · exact e
      · rcases List.mem_cons.1 ((he y).2 (by simp)) with e | hm2
        · exact e.symm
        · have := cBef_asym (h3 x hm)
          rw [h1 y hm2] at this; cases this
    subst hxy
    rw [ssc_unique a b h2 h4 fun z => ?_]
    constructor
    · intro hz
      rcases List.mem_cons.1 ((he z).1 (by simp [hz])) with e | hm
      · subst e; have := h1 z hz; rw [cBef_irr] at this; cases this
      · exact hm
    · intro hz
      rcases List.mem_cons.1 ((he z).2 (by simp [hz])) with e | hm
      · subst e; have := h3 z hz; rw [cBef_irr] at this; cases this
      · exact hm
theorem ssc_perm {l m : List (Int × Int × Int)} (hp : l.Perm m) (hl : WC l) (hm : WC m) : SSC l ↔ SSC m := by
  rw [ssc_iff, ssc_iff]
  have := (hp.map posD).nodup_iff
  exact ⟨fun ⟨_, h⟩ => ⟨hm, this.1 h⟩, fun ⟨_, h⟩ => ⟨hl, this.2 h⟩⟩
/-- Each cell is ahead of the next one. -/
def ssB : List (Int × Int × Int) → Bool
  | [] => true
  | [_] => true
  | a :: b :: l => cBef a b && ssB (b :: l)
theorem ssB_iff : ∀ {l : List (Int × Int × Int)}, ssB l = true ↔ SSC l
  | [] => by simp [ssB, SSC]
  | [a] => by simp [ssB, SSC]
  | a :: b :: l => by
    have ih := ssB_iff (l := b :: l)
    unfold ssB
    rw [Bool.and_eq_true, ih]
    constructor
    · rintro ⟨h1, h2⟩
      refine List.pairwise_cons.2 ⟨fun x hx => ?_, h2⟩
      rcases List.mem_cons.1 hx with rfl | hm
      · exact h1
      · exact cBef_tr h1 ((List.pairwise_cons.1 h2).1 x hm)
    · intro h
      obtain ⟨h1, h2⟩ := List.pairwise_cons.1 h
      exact ⟨h1 b (by simp), h2⟩
/-- The code that From returns, and the pattern. -/
def frE (l : List (Int × Int × Int)) : Int := if frFirst l = 0 then (if ssB (srtC (nz l)) = true then (if (nz l).length ≤ 5000 then 0 else 6) else 8) else frFirst l
def frL (l : List (Int × Int × Int)) : List (Int × Int × Int) := if frE l = 0 then srtC (nz l) else []
theorem frL_no {l : List (Int × Int × Int)} {e : Int} (h : frE l = e) (hn : e ≠ 0) : frL l = [] := by unfold frL; rw [if_neg (by rw [h]; exact hn)]
theorem frL_ok {l : List (Int × Int × Int)} (h : frE l = 0) : frL l = srtC (nz l) := by unfold frL; rw [if_pos h]
theorem frE_first {l : List (Int × Int × Int)} {e : Int} (h : frFirst l = e) (hn : e ≠ 0) : frE l = e := by unfold frE; rw [h, if_neg hn]
theorem frE_twice {l : List (Int × Int × Int)} (h : frFirst l = 0) (hs : ssB (srtC (nz l)) = false) : frE l = 8 := by unfold frE; rw [if_pos h, if_neg (by rw [hs]; simp)]
theorem frE_size {l : List (Int × Int × Int)} (h : frFirst l = 0) (hs : ssB (srtC (nz l)) = true) (hz : 5000 < (nz l).length) : frE l = 6 := by unfold frE; rw [if_pos h, if_pos hs, if_neg (by omega)]
theorem frE_ok {l : List (Int × Int × Int)} (h : frFirst l = 0) (hs : ssB (srtC (nz l)) = true) (hz : (nz l).length ≤ 5000) : frE l = 0 := by unfold frE; rw [if_pos h, if_pos hs, if_pos hz]
/-- A sorted list of the cells whose neighbours stand at different positions is the pattern. -/
theorem sorted_distinct {l' m : List (Int × Int × Int)} (hp : l'.Perm m) (hw : WC l') (hd : ∀ j a b, l'[j]? = some a → l'[j + 1]? = some b → posD a ≠ posD b) : ssB (srtC m) = true ∧ srtC m = l' := by
  have hs : SSC l' := by
    refine pairwise_of_next (r := fun a b => cBef a b = true) (fun a b c h1 h2 => cBef_tr h1 h2) l' fun j a b ha hb => ?_
    have h1 := (List.getElem?_eq_some_iff.1 ha)
    have h2 := (List.getElem?_eq_some_iff.1 hb)
    have hwk := (List.pairwise_iff_getElem.1 hw) j (j + 1) h1.1 h2.1 (by omega)
    rw [h1.2, h2.2] at hwk
    have hne := hd j a b ha hb
    unfold posD at hne
    unfold cBef befP at *
    simp only [decide_eq_true_eq, decide_eq_false_iff_not] at *
    rcases Classical.em (b.2.1 = a.2.1) with e | e
    · rcases Classical.em (b.1 = a.1) with f | f
      · exact absurd (by rw [e, f]) hne
      · omega
    · omega
  have hsm : SSC (srtC m) := (ssc_perm ((srtC_perm m).trans hp.symm) (srtC_wc m) hw).2 hs
  exact ⟨ssB_iff.2 hsm, ssc_unique _ _ hsm hs fun x => ((srtC_perm m).trans hp.symm).mem_iff⟩
/-- Two neighbours at one position: it is none. -/
theorem sorted_twice {l' m : List (Int × Int × Int)} {j : Nat} {a b : Int × Int × Int} (hp : l'.Perm m) (hw : WC l') (ha : l'[j]? = some a) (hb : l'[j + 1]? = some b) (he : posD a = posD b) : ssB (srtC m) = false := by
  rw [Bool.eq_false_iff]
  intro h
  have hs := (ssc_perm ((srtC_perm m).trans hp.symm) (srtC_wc m) hw).1 (ssB_iff.1 h)
  have h1 := (List.getElem?_eq_some_iff.1 ha)
  have h2 := (List.getElem?_eq_some_iff.1 hb)
  have := (List.pairwise_iff_getElem.1 hs) j (j + 1) h1.1 h2.1 (by omega)
  rw [h1.2, h2.2] at this
  unfold posD at he
  injection he with e1 e2
  unfold cBef befP at this
  simp only [decide_eq_true_eq] at this
  omega
end Go.Proofs.YtfdihjjnlmhibaaGreat
end
section
namespace Go.Proofs.YtfdihjjnlmhibaaGreat
open Go Go.RowKit
def mv5 (dx dy : Int) (c : Int × Int × Int) : Int × Int × Int := (c.1 + dx, c.2.1 + dy, c.2.2)
theorem getC_mem : ∀ {l : List (Int × Int × Int)} {x y s : Int}, SSC l → (x, y, s) ∈ l → getC l x y = s
  | [], _, _, _, _, h => by cases h
  | c :: l, x, y, s, hS, h => by
    obtain ⟨h1, h2⟩ := List.pairwise_cons.1 hS
    unfold getC
    rcases List.mem_cons.1 h with e | hm
    · subst e; rw [if_pos ⟨rfl, rfl⟩]
    · have := h1 _ hm
      rw [if_neg (fun ⟨e1, e2⟩ => by
        unfold cBef befP at this
        simp only [decide_eq_true_eq] at this
        omega)]
      exact getC_mem h2 hm
theorem getC_not : ∀ {l : List (Int × Int × Int)} {x y : Int}, (∀ c ∈ l, ¬(c.1 = x ∧ c.2.1 = y)) → getC l x y = 0
  | [], _, _, _ => rfl
  | c :: l, x, y, h => by
    unfold getC
    rw [if_neg (h c (by simp))]
    exact getC_not fun d hd => h d (by simp [hd])
theorem frE_zero {l : List (Int × Int × Int)} (h : frE l = 0) : frFirst l = 0 ∧ ssB (srtC (nz l)) = true ∧ (nz l).length ≤ 5000 := by
  unfold frE at h
  split at h
  · split at h
    · split at h
      · exact ⟨‹_›, ‹_›, ‹_›⟩
      · cases h
    · cases h
  · exact absurd h ‹_›
theorem frFirst_all : ∀ {l : List (Int × Int × Int)}, frFirst l = 0 → ∀ c ∈ l, frBad c = 0
  | [], _, c, hc => by cases hc
  | d :: l, h, c, hc => by
    unfold frFirst at h
    split at h
    · rcases List.mem_cons.1 hc with rfl | hm
      · assumption
      · exact frFirst_all h c hm
    · exact absurd h ‹_›
theorem frL_right {l : List (Int × Int × Int)} (h : frE l = 0) : rightC (frL l) = true := by
  obtain ⟨h1, h2, h3⟩ := frE_zero h
  rw [frL_ok h]
  refine rightC_of (by rw [(srtC_perm _).length_eq]; exact h3) (fun p hp => ?_) (ssB_iff.1 h2)
  have hm := (srtC_perm _).mem_iff.1 hp
  unfold nz nzC at hm
  obtain ⟨hm, h0⟩ := List.mem_filter.1 hm
  have hb := frFirst_all h1 p hm
  unfold frBad at hb
  simp only [decide_eq_true_eq] at h0
  split at hb
  · rename_i hv
    split at hb
    · exact ⟨validB_iff.1 hv, by omega, by omega⟩
    · cases hb
  · cases hb
end Go.Proofs.YtfdihjjnlmhibaaGreat
end
section
namespace Go.Proofs.YtfdihjjnlmhibaaGreat
open Go Go.RowKit
section
variable {σ : Type}
def gBef (a b : Int × Int × σ) : Bool := befP a.1 a.2.1 b.1 b.2.1
def posG (c : Int × Int × σ) : Int × Int := (c.1, c.2.1)
def insG : List (Int × Int × σ) → Int × Int × σ → List (Int × Int × σ)
  | [], c => [c]
  | d :: p, c => if gBef d c = true then d :: insG p c else c :: d :: p
def srtG (l : List (Int × Int × σ)) : List (Int × Int × σ) := l.foldl insG []
def WG (l : List (Int × Int × σ)) : Prop := l.Pairwise fun a b => gBef b a = false
def SSG (l : List (Int × Int × σ)) : Prop := l.Pairwise fun a b => gBef a b = true
theorem gBef_irr (a : Int × Int × σ) : gBef a a = false := by unfold gBef befP; exact decide_eq_false (by omega)
theorem gBef_tr {a b c : Int × Int × σ} (h1 : gBef a b = true) (h2 : gBef b c = true) : gBef a c = true := by
  unfold gBef befP at *; simp only [decide_eq_true_eq] at *; omega
theorem gBef_asym {a b : Int × Int × σ} (h : gBef a b = true) : gBef b a = false := by
  unfold gBef befP at *; simp only [decide_eq_true_eq, decide_eq_false_iff_not] at *; omega
theorem insG_perm : ∀ (p : List (Int × Int × σ)) (c : Int × Int × σ), (insG p c).Perm (c :: p)
  | [], c => List.Perm.refl _
  | d :: p, c => by
    unfold insG
    split
    · exact (List.Perm.cons d (insG_perm p c)).trans (List.Perm.swap c d p)
    · exact List.Perm.refl _
theorem gBef_wt {a b c : Int × Int × σ} (h1 : gBef b a = false) (h2 : gBef c b = false) : gBef c a = false := by
  unfold gBef befP at *; simp only [decide_eq_false_iff_not] at *; omega
theorem insG_wg : ∀ (p : List (Int × Int × σ)) (c : Int × Int × σ), WG p → WG (insG p c)
  | [], c, _ => by simp [insG, WG]
  | d :: p, c, h => by
    unfold WG at h
    obtain ⟨h1, h2⟩ := List.pairwise_cons.1 h
    unfold insG
    split
    · rename_i hc
      refine List.pairwise_cons.2 ⟨fun x hx => ?_, insG_wg p c h2⟩
      rcases List.mem_cons.1 ((insG_perm p c).mem_iff.1 hx) with rfl | hm
      · exact gBef_asym hc
      · exact h1 x hm
    · rename_i hc
      have hc' : gBef d c = false := by simpa using hc
      refine List.pairwise_cons.2 ⟨fun x hx => ?_, h⟩
      rcases List.mem_cons.1 hx with rfl | hm
      · exact hc'
      · exact gBef_wt hc' (h1 x hm)
theorem srtG_aux : ∀ (l o : List (Int × Int × σ)), WG o → WG (l.foldl insG o) ∧ (l.foldl insG o).Perm (l ++ o)
  | [], o, h => ⟨h, List.Perm.refl _⟩
  | c :: l, o, h => by
    obtain ⟨h1, h2⟩ := srtG_aux l (insG o c) (insG_wg o c h)
    exact ⟨h1, h2.trans (((insG_perm o c).append_left l).trans List.perm_middle)⟩
theorem srtG_wg (l : List (Int × Int × σ)) : WG (srtG l) := (srtG_aux l [] List.Pairwise.nil).1
theorem srtG_perm (l : List (Int × Int × σ)) : (srtG l).Perm l := by
  have := (srtG_aux l [] List.Pairwise.nil).2
  simpa [srtG] using this
theorem ssg_iff {l : List (Int × Int × σ)} : SSG l ↔ WG l ∧ (l.map posG).Nodup := by
  unfold SSG WG List.Nodup
  rw [List.pairwise_map]
  constructor
  · intro h
    refine ⟨h.imp fun hab => gBef_asym hab, h.imp fun {a b} hab e => ?_⟩
    unfold posG at e
    injection e with e1 e2
    unfold gBef befP at hab
    simp only [decide_eq_true_eq] at hab
    omega
  · rintro ⟨h1, h2⟩
    rw [List.pairwise_iff_getElem] at *
    intro i j hi hj hij
    have a := h1 i j hi hj hij
    have b := h2 i j hi hj hij
    unfold posG at b
    unfold gBef befP at *
    simp only [decide_eq_true_eq, decide_eq_false_iff_not] at *
    rcases Classical.em (l[j].2.1 = l[i].2.1) with e | e
    · rcases Classical.em (l[j].1 = l[i].1) with f | f
      · exact absurd (by rw [e, f]) b
      · omega
    · omega
theorem ssg_unique : ∀ (a b : List (Int × Int × σ)), SSG a → SSG b → (∀ x, x ∈ a ↔ x ∈ b) → a = b
  | [], [], _, _, _ => rfl
  | [], y :: b, _, _, he => absurd ((he y).2 (by simp)) (by simp)
  | x :: a, [], _, _, he => absurd ((he x).1 (by simp)) (by simp)
  | x :: a, y :: b, ha, hb, he => by
    obtain ⟨h1, h2⟩ := List.pairwise_cons.1 ha
    obtain ⟨h3, h4⟩ := List.pairwise_cons.1 hb
    have hxy : x = y := by
      rcases List.mem_cons.1 ((he x).1 (by simp)) with e | hm
      · exact e
      · rcases List.mem_cons.1 ((he y).2 (by simp)) with e | hm2
        · exact e.symm
        · have := gBef_asym (h3 x hm)
          rw [h1 y hm2] at this; cases this
    subst hxy
    rw [ssg_unique a b h2 h4 fun z => ?_]
    constructor
    · intro hz
      rcases List.mem_cons.1 ((he z).1 (by simp [hz])) with e | hm
      · subst e; have := h1 z hz; rw [gBef_irr] at this; cases this
      · exact hm
    · intro hz
      rcases List.mem_cons.1 ((he z).2 (by simp [hz])) with e | hm
      · subst e; have := h3 z hz; rw [gBef_irr] at this; cases this
      · exact hm
theorem srtG_eq {l m : List (Int × Int × σ)} (hp : l.Perm m) (hl : WG l) (hn : (m.map posG).Nodup) : l = srtG m := by
  have h1 : SSG l := ssg_iff.2 ⟨hl, (hp.map posG).nodup_iff.2 hn⟩
  have h2 : SSG (srtG m) := ssg_iff.2 ⟨srtG_wg m, ((srtG_perm m).map posG).nodup_iff.2 hn⟩
  exact ssg_unique _ _ h1 h2 fun x => (hp.trans (srtG_perm m).symm).mem_iff
theorem srtG_ss {m : List (Int × Int × σ)} (hn : (m.map posG).Nodup) : SSG (srtG m) := ssg_iff.2 ⟨srtG_wg m, ((srtG_perm m).map posG).nodup_iff.2 hn⟩
theorem srtG_congr {l m : List (Int × Int × σ)} (hl : (l.map posG).Nodup) (hm : (m.map posG).Nodup) (h : ∀ x, x ∈ l ↔ x ∈ m) : srtG l = srtG m :=
  ssg_unique _ _ (srtG_ss hl) (srtG_ss hm) fun x => (srtG_perm l).mem_iff.trans ((h x).trans (srtG_perm m).symm.mem_iff)
theorem ssg_nodup {l : List (Int × Int × σ)} (h : SSG l) : (l.map posG).Nodup := (ssg_iff.1 h).2
theorem ssg_inj {l : List (Int × Int × σ)} (h : SSG l) {x y : Int} {s t : σ} (h1 : (x, y, s) ∈ l) (h2 : (x, y, t) ∈ l) : s = t := by
  obtain ⟨i, hi, e1⟩ := List.getElem_of_mem h1
  obtain ⟨j, hj, e2⟩ := List.getElem_of_mem h2
  have hp := List.pairwise_iff_getElem.1 h
  rcases Nat.lt_trichotomy i j with q | q | q
  · have := hp i j hi hj q; rw [e1, e2] at this; unfold gBef befP at this; simp only [decide_eq_true_eq] at this; omega
  · subst q; rw [e1] at e2; injection e2 with _ e3; injection e3
  · have := hp j i hj hi q; rw [e1, e2] at this; unfold gBef befP at this; simp only [decide_eq_true_eq] at this; omega
end
end Go.Proofs.YtfdihjjnlmhibaaGreat
end
section
namespace Go.Proofs.YtfdihjjnlmhibaaGreat
open Go Go.RowKit
def okG (l : List (Int × Int × Int × Int)) (i : Nat) : Bool := match l[i]? with
  | none => true
  | some p => validB p.1 p.2.1 && decide (0 ≤ p.2.2.1 ∧ p.2.2.1 ≤ 7 ∧ 0 ≤ p.2.2.2 ∧ p.2.2.2 ≤ 7 ∧ p.2.2.1 ≠ p.2.2.2) && (i == 0 || (match l[i - 1]? with | none => true | some q => gBef q p))
def rightG (l : List (Int × Int × Int × Int)) : Bool := decide (l.length ≤ 10000) && (List.range l.length).all (okG l)
section
variable {l : List (Int × Int × Int × Int)} {n j : Nat} {x y f t a b c d : Int}
theorem rightG_len (hl : l.length = n) (h : 10000 < n) : rightG l = false := by
  unfold rightG; rw [hl, decide_eq_false (by omega)]; rfl
theorem rightG_bad (hl : l.length = n) (hj : j < n) (h : okG l j = false) : rightG l = false := by
  unfold rightG
  rw [hl, Bool.and_eq_false_iff]
  right
  rw [List.all_eq_false]
  exact ⟨j, by simpa using hj, by simp [h]⟩
theorem rightG_all (hl : l.length = n) (h2 : n ≤ 10000) (h : ∀ j, j < n → okG l j = true) : rightG l = true := by
  unfold rightG
  rw [hl, decide_eq_true (by omega), Bool.true_and, List.all_eq_true]
  intro j hj
  exact h j (by simpa using hj)
theorem okG_step (h : ∀ r, r < j → okG l r = true) (hj : okG l j = true) : ∀ r, r < j + 1 → okG l r = true := by
  intro r hr
  by_cases e : r = j
  · rw [e]; exact hj
  · exact h r (by omega)
theorem okG_place (hx : l[j]? = some (x, y, f, t)) (h : validB x y = false) : okG l j = false := by
  unfold okG; rw [hx]; simp only [h, Bool.false_and]
theorem okG_state (hx : l[j]? = some (x, y, f, t)) (h : ¬(0 ≤ f ∧ f ≤ 7 ∧ 0 ≤ t ∧ t ≤ 7 ∧ f ≠ t)) : okG l j = false := by
  unfold okG; rw [hx]
  have : decide (0 ≤ f ∧ f ≤ 7 ∧ 0 ≤ t ∧ t ≤ 7 ∧ f ≠ t) = false := decide_eq_false h
  simp only [this, Bool.and_false, Bool.false_and]
theorem okG_first (hx : l[0]? = some (x, y, f, t)) (hv : validB x y = true) (h : 0 ≤ f ∧ f ≤ 7 ∧ 0 ≤ t ∧ t ≤ 7 ∧ f ≠ t) : okG l 0 = true := by
  unfold okG; rw [hx]
  have : decide (0 ≤ f ∧ f ≤ 7 ∧ 0 ≤ t ∧ t ≤ 7 ∧ f ≠ t) = true := decide_eq_true h
  simp only [this, hv]; rfl
theorem okG_next (hj : 0 < j) (hx : l[j]? = some (x, y, f, t)) (hp : l[j - 1]? = some (a, b, c, d)) (hv : validB x y = true) (h : 0 ≤ f ∧ f ≤ 7 ∧ 0 ≤ t ∧ t ≤ 7 ∧ f ≠ t) : okG l j = befP a b x y := by
  unfold okG; rw [hx, hp]
  have h1 : decide (0 ≤ f ∧ f ≤ 7 ∧ 0 ≤ t ∧ t ≤ 7 ∧ f ≠ t) = true := decide_eq_true h
  have h2 : (j == 0) = false := by simp; omega
  simp only [h1, hv, h2]; rfl
theorem rightG_ok (h : rightG l = true) : l.length ≤ 10000 ∧ ∀ j, okG l j = true := by
  unfold rightG at h
  rw [Bool.and_eq_true, List.all_eq_true, decide_eq_true_eq] at h
  refine ⟨h.1, fun j => ?_⟩
  by_cases hj : j < l.length
  · exact h.2 j (by simpa using hj)
  · unfold okG; rw [List.getElem?_eq_none (by omega)]
theorem rightG_elem (h : rightG l = true) (hx : l[j]? = some (x, y, f, t)) : Pt x y ∧ 0 ≤ f ∧ f ≤ 7 ∧ 0 ≤ t ∧ t ≤ 7 ∧ f ≠ t := by
  have := (rightG_ok h).2 j
  unfold okG at this
  rw [hx] at this
  simp only [Bool.and_eq_true, decide_eq_true_eq] at this
  exact ⟨validB_iff.1 this.1.1, this.1.2⟩
theorem rightG_sorted (h : rightG l = true) : SSG l := by
  refine pairwise_of_next (r := fun a b => gBef a b = true) (fun a b c h1 h2 => gBef_tr h1 h2) l fun j p q hp hq => ?_
  have := (rightG_ok h).2 (j + 1)
  unfold okG at this
  rw [hq, show j + 1 - 1 = j by omega, hp] at this
  simp only [Bool.and_eq_true, Bool.or_eq_true] at this
  rcases this.2 with h0 | h0
  · simp at h0
  · exact h0
end
section
variable {a b p q : List (Int × Int × Int)} {x y s f t : Int}
theorem getC_in {l : List (Int × Int × Int)} {x y : Int} (h : getC l x y ≠ 0) : (x, y, getC l x y) ∈ l := by
  induction l with
  | nil => simp [getC] at h
  | cons c l ih =>
    unfold getC at h ⊢
    by_cases e : c.1 = x ∧ c.2.1 = y
    · rw [if_pos e] at h ⊢
      obtain ⟨e1, e2⟩ := e
      subst e1 e2
      simp
    · rw [if_neg e] at h ⊢
      exact List.mem_cons_of_mem _ (ih h)
theorem right_mem (h : rightC p = true) (hm : (x, y, s) ∈ p) : Pt x y ∧ 1 ≤ s ∧ s ≤ 7 := by
  obtain ⟨i, hi⟩ := List.getElem?_of_mem hm
  exact rightC_elem h hi
theorem right_get (h : rightC p = true) : (x, y, s) ∈ p ↔ getC p x y = s ∧ s ≠ 0 := by
  constructor
  · intro hm
    exact ⟨getC_mem (rightC_sorted h) hm, by have := (right_mem h hm).2.1; omega⟩
  · rintro ⟨rfl, hs⟩
    exact getC_in hs
theorem right_rng (h : rightC p = true) : 0 ≤ getC p x y ∧ getC p x y ≤ 7 := by
  by_cases e : getC p x y = 0
  · omega
  · have := right_mem h (getC_in e); omega
def ofA (b : List (Int × Int × Int)) (c : Int × Int × Int) : List (Int × Int × Int × Int) := if getC b c.1 c.2.1 = c.2.2 then [] else [(c.1, c.2.1, c.2.2, getC b c.1 c.2.1)]
def ofB (a : List (Int × Int × Int)) (c : Int × Int × Int) : List (Int × Int × Int × Int) := if getC a c.1 c.2.1 = 0 then [(c.1, c.2.1, 0, c.2.2)] else []
def ofM (a b : List (Int × Int × Int)) : List (Int × Int × Int × Int) := a.flatMap (ofA b) ++ b.flatMap (ofB a)
def ofR (a b : List (Int × Int × Int)) : List (Int × Int × Int × Int) := srtG (ofM a b)
def ofE (a b : List (Int × Int × Int)) : Int := if rightC a = true ∧ rightC b = true then 0 else 2
def ofL (a b : List (Int × Int × Int)) : List (Int × Int × Int × Int) := if rightC a = true ∧ rightC b = true then ofR a b else []
theorem ofM_mem (ha : rightC a = true) (hb : rightC b = true) : (x, y, f, t) ∈ ofM a b ↔ f = getC a x y ∧ t = getC b x y ∧ f ≠ t := by
  unfold ofM ofA ofB
  rw [List.mem_append, List.mem_flatMap, List.mem_flatMap]
  constructor
  · rintro (⟨⟨u, v, s⟩, hm, hx⟩ | ⟨⟨u, v, s⟩, hm, hx⟩)
    · simp only at hx
      split at hx
      · cases hx
      · rename_i hne
        obtain ⟨rfl, rfl, rfl, rfl⟩ : x = u ∧ y = v ∧ f = s ∧ t = getC b u v := by simpa using hx
        exact ⟨((right_get ha).1 hm).1.symm, rfl, fun e => hne e.symm⟩
    · simp only at hx
      split at hx
      · rename_i h0
        obtain ⟨rfl, rfl, rfl, rfl⟩ : x = u ∧ y = v ∧ f = 0 ∧ t = s := by simpa using hx
        exact ⟨h0.symm, ((right_get hb).1 hm).1.symm, fun e => ((right_get hb).1 hm).2 e.symm⟩
      · cases hx
  · rintro ⟨rfl, rfl, hne⟩
    by_cases h0 : getC a x y = 0
    · refine .inr ⟨(x, y, getC b x y), getC_in (fun e => hne (by rw [h0, e])), ?_⟩
      rw [if_pos h0, h0]; simp
    · refine .inl ⟨(x, y, getC a x y), getC_in h0, ?_⟩
      rw [if_neg (fun e => hne e.symm)]; simp
theorem flat_posA (l : List (Int × Int × Int)) (b : List (Int × Int × Int)) : ((l.flatMap (ofA b)).map posG).Sublist (l.map posD) := by
  induction l with
  | nil => exact List.Sublist.refl _
  | cons c l ih =>
    rw [List.flatMap_cons, List.map_append, List.map_cons]
    unfold ofA
    split
    · exact ih.cons _
    · exact ih.cons_cons _
theorem flat_posB (l : List (Int × Int × Int)) (a : List (Int × Int × Int)) : ((l.flatMap (ofB a)).map posG).Sublist (l.map posD) := by
  induction l with
  | nil => exact List.Sublist.refl _
  | cons c l ih =>
    rw [List.flatMap_cons, List.map_append, List.map_cons]
    unfold ofB
    split
    · exact ih.cons_cons _
    · exact ih.cons _
theorem ofM_nodup (ha : rightC a = true) (hb : rightC b = true) : ((ofM a b).map posG).Nodup := by
  unfold ofM
  rw [List.map_append, List.nodup_append]
  refine ⟨(flat_posA a b).nodup (ssc_iff.1 (rightC_sorted ha)).2, (flat_posB b a).nodup (ssc_iff.1 (rightC_sorted hb)).2, ?_⟩
  intro u hu v hv e
  subst e
  obtain ⟨z, hz, rfl⟩ := List.mem_map.1 hu
  obtain ⟨z', hz', he⟩ := List.mem_map.1 hv
  obtain ⟨c, hc, hz⟩ := List.mem_flatMap.1 hz
  obtain ⟨c', hc', hz'⟩ := List.mem_flatMap.1 hz'
  unfold ofA at hz
  unfold ofB at hz'
  split at hz
  · cases hz
  split at hz'
  · rename_i h0
    obtain rfl : z = _ := by simpa using hz
    obtain rfl : z' = _ := by simpa using hz'
    obtain ⟨x, y, s⟩ := c
    obtain ⟨x', y', s'⟩ := c'
    unfold posG at he
    simp only at he h0
    injection he with e1 e2
    subst e1 e2
    have := (right_get ha).1 hc
    omega
  · cases hz'
theorem ofR_mem (ha : rightC a = true) (hb : rightC b = true) : (x, y, f, t) ∈ ofR a b ↔ f = getC a x y ∧ t = getC b x y ∧ f ≠ t := by
  unfold ofR; rw [(srtG_perm _).mem_iff]; exact ofM_mem ha hb
theorem ofR_ss (ha : rightC a = true) (hb : rightC b = true) : SSG (ofR a b) := srtG_ss (ofM_nodup ha hb)
theorem ofR_eq (ha : rightC a = true) (hb : rightC b = true) {l m : List (Int × Int × Int × Int)} (hp : l.Perm m) (hw : WG l) (hn : (m.map posG).Nodup) (h : ∀ x y f t, (x, y, f, t) ∈ m ↔ f = getC a x y ∧ t = getC b x y ∧ f ≠ t) : l = ofR a b := by
  rw [srtG_eq hp hw hn]
  exact srtG_congr hn (ofM_nodup ha hb) fun z => by obtain ⟨x, y, f, t⟩ := z; rw [h, ofM_mem ha hb]
def fitG (p : List (Int × Int × Int)) (l : List (Int × Int × Int × Int)) : Bool := l.all fun c => decide (getC p c.1 c.2.1 = c.2.2.1)
def toC (c : Int × Int × Int × Int) : Int × Int × Int := (c.1, c.2.1, c.2.2.2)
def inG (l : List (Int × Int × Int × Int)) (x y : Int) : Bool := l.any fun c => decide (c.1 = x ∧ c.2.1 = y)
def apM (p : List (Int × Int × Int)) (l : List (Int × Int × Int × Int)) : List (Int × Int × Int) := l.map toC ++ p.filter fun c => !inG l c.1 c.2.1
def apE (p : List (Int × Int × Int)) (l : List (Int × Int × Int × Int)) : Int := if rightC p = true ∧ rightG l = true then (if fitG p l = true then frE (apM p l) else 17) else 2
def apL (p : List (Int × Int × Int)) (l : List (Int × Int × Int × Int)) : List (Int × Int × Int) := if rightC p = true ∧ rightG l = true ∧ fitG p l = true then frL (apM p l) else []
end
end Go.Proofs.YtfdihjjnlmhibaaGreat
end
section
namespace Go.Proofs.YtfdihjjnlmhibaaGreat
open Go Go.RowKit
structure GdC (M : List (Int × Int × Int)) : Prop where
  ok : ∀ c ∈ M, frBad c = 0
  nd : (M.map posD).Nodup
theorem nz_mem {M : List (Int × Int × Int)} {x y s : Int} : (x, y, s) ∈ nz M ↔ (x, y, s) ∈ M ∧ 0 < s := by
  unfold nz nzC; rw [List.mem_filter]; simp
theorem nz_nodup {M : List (Int × Int × Int)} (h : (M.map posD).Nodup) : ((nz M).map posD).Nodup := (List.filter_sublist.map posD).nodup h
theorem nodup_of_map {α β : Type} {f : α → β} {l : List α} (h : (l.map f).Nodup) : l.Nodup := by
  unfold List.Nodup at *
  rw [List.pairwise_map] at h
  exact h.imp fun hab e => hab (by rw [e])
section
variable {M M' : List (Int × Int × Int)}
theorem GdC.first (h : GdC M) : frFirst M = 0 := frFirst_good fun i d hd => h.ok d (List.mem_of_getElem? hd)
theorem GdC.ss (h : GdC M) : SSC (srtC (nz M)) := ssc_iff.2 ⟨srtC_wc _, ((srtC_perm _).map posD).nodup_iff.2 (nz_nodup h.nd)⟩
theorem GdC.err (h : GdC M) : frE M = if (nz M).length ≤ 5000 then 0 else 6 := by
  unfold frE
  rw [if_pos h.first, if_pos (ssB_iff.2 h.ss)]
theorem frC_congr (h : GdC M) (h' : GdC M') (hm : ∀ x y s, s ≠ 0 → ((x, y, s) ∈ M ↔ (x, y, s) ∈ M')) : frE M = frE M' ∧ frL M = frL M' := by
  have hiff : ∀ c, c ∈ nz M ↔ c ∈ nz M' := by
    rintro ⟨x, y, s⟩
    rw [nz_mem, nz_mem]
    constructor
    · rintro ⟨h1, h2⟩; exact ⟨(hm x y s (by omega)).1 h1, h2⟩
    · rintro ⟨h1, h2⟩; exact ⟨(hm x y s (by omega)).2 h1, h2⟩
  have hp : (nz M).Perm (nz M') := (List.perm_ext_iff_of_nodup (nodup_of_map (nz_nodup h.nd)) (nodup_of_map (nz_nodup h'.nd))).2 hiff
  have hE : frE M = frE M' := by rw [h.err, h'.err, hp.length_eq]
  refine ⟨hE, ?_⟩
  unfold frL
  rw [← hE]
  split
  · exact ssc_unique _ _ h.ss h'.ss fun c => (srtC_perm _).mem_iff.trans ((hiff c).trans (srtC_perm _).symm.mem_iff)
  · rfl
theorem frL_mem (h : frE M = 0) {x y s : Int} : (x, y, s) ∈ frL M ↔ (x, y, s) ∈ M ∧ 0 < s := by
  rw [frL_ok h, (srtC_perm _).mem_iff, nz_mem]
end
theorem frBad_zero {c : Int × Int × Int} : frBad c = 0 ↔ Pt c.1 c.2.1 ∧ 0 ≤ c.2.2 ∧ c.2.2 ≤ 7 := by
  unfold frBad
  constructor
  · intro h
    split at h
    · rename_i hv
      split at h
      · rename_i hs; exact ⟨validB_iff.1 hv, hs⟩
      · omega
    · omega
  · rintro ⟨h1, h2⟩
    rw [if_pos (validB_iff.2 h1), if_pos h2]
section
variable {a b p q : List (Int × Int × Int)} {l : List (Int × Int × Int × Int)} {x y s f t : Int}
theorem rightG_mem (h : rightG l = true) (hm : (x, y, f, t) ∈ l) : Pt x y ∧ 0 ≤ f ∧ f ≤ 7 ∧ 0 ≤ t ∧ t ≤ 7 ∧ f ≠ t := by
  obtain ⟨i, hi⟩ := List.getElem?_of_mem hm
  exact rightG_elem h hi
theorem inG_iff : inG l x y = true ↔ ∃ f t, (x, y, f, t) ∈ l := by
  unfold inG
  rw [List.any_eq_true]
  constructor
  · rintro ⟨⟨u, v, f, t⟩, hm, h⟩
    obtain ⟨rfl, rfl⟩ := of_decide_eq_true h
    exact ⟨f, t, hm⟩
  · rintro ⟨f, t, hm⟩
    exact ⟨_, hm, decide_eq_true ⟨rfl, rfl⟩⟩
theorem apM_mem : (x, y, s) ∈ apM p l ↔ (∃ f, (x, y, f, s) ∈ l) ∨ ((x, y, s) ∈ p ∧ inG l x y = false) := by
  unfold apM toC
  rw [List.mem_append, List.mem_map, List.mem_filter]
  constructor
  · rintro (⟨⟨u, v, f, t⟩, hm, e⟩ | ⟨h1, h2⟩)
    · simp only at e
      injection e with e1 e2
      injection e2 with e2 e3
      subst e1 e2 e3
      exact .inl ⟨f, hm⟩
    · exact .inr ⟨h1, by simpa using h2⟩
  · rintro (⟨f, hm⟩ | ⟨h1, h2⟩)
    · exact .inl ⟨_, hm, rfl⟩
    · exact .inr ⟨h1, by simpa using h2⟩
theorem apM_good (hp : rightC p = true) (hl : rightG l = true) : GdC (apM p l) := by
  constructor
  · rintro ⟨x, y, s⟩ hm
    rw [frBad_zero]
    rcases apM_mem.1 hm with ⟨f, h⟩ | ⟨h, _⟩
    · have := rightG_mem hl h; exact ⟨this.1, this.2.2.2.1, this.2.2.2.2.1⟩
    · have := right_mem hp h; exact ⟨this.1, show 0 ≤ s by omega, this.2.2⟩
  · unfold apM
    rw [List.map_append, List.nodup_append]
    refine ⟨?_, (List.filter_sublist.map posD).nodup (ssc_iff.1 (rightC_sorted hp)).2, ?_⟩
    · rw [List.map_map]
      exact ssg_nodup (rightG_sorted hl)
    · intro u hu v hv e
      subst e
      obtain ⟨z, hz, rfl⟩ := List.mem_map.1 hu
      obtain ⟨z', hz', he⟩ := List.mem_map.1 hv
      obtain ⟨⟨x, y, f, t⟩, hc, rfl⟩ := List.mem_map.1 hz
      obtain ⟨x', y', s'⟩ := z'
      obtain ⟨h1, h2⟩ := List.mem_filter.1 hz'
      unfold posD toC at he
      simp only at he
      injection he with e1 e2
      subst e1 e2
      have : inG l x' y' = true := inG_iff.2 ⟨f, t, hc⟩
      simp [this] at h2
theorem apE_right (h : apE p l = 0) : rightC p = true ∧ rightG l = true ∧ fitG p l = true ∧ frE (apM p l) = 0 := by
  unfold apE at h
  split at h
  · rename_i hr
    split at h
    · rename_i hf; exact ⟨hr.1, hr.2, hf, h⟩
    · omega
  · omega
theorem apL_eq (h : apE p l = 0) : apL p l = frL (apM p l) := by
  obtain ⟨h1, h2, h3, _⟩ := apE_right h
  unfold apL; rw [if_pos ⟨h1, h2, h3⟩]
theorem apL_right (h : apE p l = 0) : rightC (apL p l) = true := by
  rw [apL_eq h]; exact frL_right (apE_right h).2.2.2
theorem apL_get (h : apE p l = 0) (x y : Int) : (∀ f t, (x, y, f, t) ∈ l → getC (apL p l) x y = t) ∧ (inG l x y = false → getC (apL p l) x y = getC p x y) := by
  obtain ⟨h1, h2, h3, h4⟩ := apE_right h
  have hr := apL_right h
  rw [apL_eq h] at *
  have hmem : ∀ s, s ≠ 0 → (getC (frL (apM p l)) x y = s ↔ (x, y, s) ∈ apM p l ∧ 0 < s) := fun s hs => by
    rw [← frL_mem h4, right_get hr]; exact ⟨fun e => ⟨e, hs⟩, fun e => e.1⟩
  constructor
  · intro f t hm
    have ht := (rightG_mem h2 hm).2.2.2.1
    by_cases h0 : t = 0
    · subst h0
      by_cases e : getC (frL (apM p l)) x y = 0
      · exact e
      · obtain ⟨g1, g2⟩ := (hmem _ e).1 rfl
        rcases apM_mem.1 g1 with ⟨f', g3⟩ | ⟨_, g3⟩
        · have := ssg_inj (rightG_sorted h2) hm g3
          injection this with _ e2
          exact e2.symm
        · rw [inG_iff.2 ⟨_, _, hm⟩] at g3; cases g3
    · exact (hmem t h0).2 ⟨apM_mem.2 (.inl ⟨f, hm⟩), by omega⟩
  · intro hn
    by_cases h0 : getC p x y = 0
    · by_cases e : getC (frL (apM p l)) x y = 0
      · rw [e, h0]
      · obtain ⟨g1, g2⟩ := (hmem _ e).1 rfl
        rcases apM_mem.1 g1 with ⟨f', g3⟩ | ⟨g3, _⟩
        · rw [inG_iff.2 ⟨_, _, g3⟩] at hn; cases hn
        · exact ((right_get h1).1 g3).1.symm
    · have := right_rng (x := x) (y := y) h1
      exact (hmem _ h0).2 ⟨apM_mem.2 (.inr ⟨getC_in h0, hn⟩), by omega⟩
theorem of_ap (h : apE p l = 0) : ofR p (apL p l) = l := by
  obtain ⟨h1, h2, h3, _⟩ := apE_right h
  have hr := apL_right h
  refine ssg_unique _ _ (ofR_ss h1 hr) (rightG_sorted h2) ?_
  rintro ⟨x, y, f, t⟩
  rw [ofR_mem h1 hr]
  obtain ⟨g1, g2⟩ := apL_get h x y
  have hfit : ∀ f t, (x, y, f, t) ∈ l → getC p x y = f := fun f t hm => by
    unfold fitG at h3
    exact of_decide_eq_true (List.all_eq_true.1 h3 _ hm)
  constructor
  · rintro ⟨rfl, rfl, hne⟩
    cases hi : inG l x y with
    | false => exact absurd (g2 hi).symm hne
    | true =>
      obtain ⟨f, t, hm⟩ := inG_iff.1 hi
      rw [g1 f t hm, hfit f t hm]; exact hm
  · intro hm
    exact ⟨(hfit f t hm).symm, (g1 f t hm).symm, (rightG_mem h2 hm).2.2.2.2.2⟩
end
end Go.Proofs.YtfdihjjnlmhibaaGreat
end
section
namespace Go.Proofs.YtfdihjjnlmhibaaGreat
open Go Go.RowKit
abbrev Cel := Int × Int × Int
abbrev Chg := Int × Int × Int × Int
abbrev TFr := Int × Bool × List Cel × List Chg
def nxP (out : List (List Cel)) (j : Nat) (f : TFr) : List Cel := if f.2.1 = true then f.2.2.1 else apL (out.getD (j - 1) []) f.2.2.2
def patL (fs : List TFr) : Nat → List (List Cel)
  | 0 => []
  | j + 1 => patL fs j ++ (match fs[j]? with | none => [] | some f => [nxP (patL fs j) j f])
def lastG (fs : List TFr) : Nat → Int
  | 0 => -1
  | j + 1 => match fs[j]? with | none => -1 | some f => f.1
def okT (K : Nat) (fs : List TFr) (j : Nat) : Bool := match fs[j]? with
  | none => true
  | some f => decide (lastG fs j < f.1 ∧ f.1 ≤ 2147483647) && (f.2.1 == decide (j % K = 0)) && (if f.2.1 = true then rightC f.2.2.1 && f.2.2.2.isEmpty else decide (apE ((patL fs j).getD (j - 1) []) f.2.2.2 = 0) && f.2.2.1.isEmpty)
def tlB (key : Int) (fs : List TFr) : Bool := decide (1 ≤ key ∧ key ≤ 100) && decide (fs.length ≤ 1000) && (List.range fs.length).all (okT key.toNat fs)
def tlP (key : Int) (fs : List TFr) : List (List Cel) := if tlB key fs = true then patL fs fs.length else []
def okTT (K : Nat) (fs : List TFr) (j : Nat) : Prop := ∀ i, i < j → okT K fs i = true
section
variable {key g : Int} {K j n : Nat} {fs : List TFr} {fu : Bool} {C : List Cel} {D : List Chg}
theorem pat_step (h : fs[j]? = some (g, fu, C, D)) : patL fs (j + 1) = patL fs j ++ [nxP (patL fs j) j (g, fu, C, D)] := by
  show patL fs j ++ _ = _
  rw [h]
theorem pat_len : ∀ j, j ≤ fs.length → (patL fs j).length = j
  | 0, _ => rfl
  | j + 1, h => by
    have hf : fs[j]? = some fs[j] := List.getElem?_eq_getElem (by omega)
    obtain ⟨⟨g, fu, C, D⟩, hf⟩ : ∃ f, fs[j]? = some f := ⟨_, hf⟩
    rw [pat_step hf, List.length_append, pat_len j (by omega)]; rfl
theorem last_step (h : fs[j]? = some (g, fu, C, D)) : lastG fs (j + 1) = g := by
  show (match fs[j]? with | none => -1 | some f => f.1) = g
  rw [h]
theorem tlB_key (h : ¬(1 ≤ key ∧ key ≤ 100)) : tlB key fs = false := by
  unfold tlB; rw [decide_eq_false h]; rfl
theorem tlB_len (hl : fs.length = n) (h : 1000 < n) : tlB key fs = false := by
  unfold tlB; rw [decide_eq_false (p := fs.length ≤ 1000) (by omega)]; simp
theorem tlB_bad (hK : key = (K : Int)) (hl : fs.length = n) (hj : j < n) (h : okT K fs j = false) : tlB key fs = false := by
  unfold tlB
  rw [Bool.and_eq_false_iff]
  right
  rw [List.all_eq_false]
  exact ⟨j, by simp; omega, by rw [hK, Int.toNat_natCast]; simp [h]⟩
theorem tlB_all (hK : key = (K : Int)) (h1 : 1 ≤ key ∧ key ≤ 100) (hl : fs.length = n) (h2 : n ≤ 1000) (h : okTT K fs n) : tlB key fs = true := by
  unfold tlB
  rw [decide_eq_true h1, decide_eq_true (p := fs.length ≤ 1000) (by omega), Bool.true_and, Bool.true_and, List.all_eq_true]
  intro i hi
  rw [hK, Int.toNat_natCast]
  exact h i (by simp at hi; omega)
theorem okTT_step (h : okTT K fs j) (hj : okT K fs j = true) : okTT K fs (j + 1) := by
  intro r hr
  by_cases e : r = j
  · rw [e]; exact hj
  · exact h r (by omega)
theorem tlB_iff : tlB key fs = true ↔ (1 ≤ key ∧ key ≤ 100) ∧ fs.length ≤ 1000 ∧ ∀ j, okT key.toNat fs j = true := by
  unfold tlB
  rw [Bool.and_eq_true, Bool.and_eq_true, decide_eq_true_eq, decide_eq_true_eq, List.all_eq_true]
  constructor
  · rintro ⟨⟨h1, h2⟩, h3⟩
    refine ⟨h1, h2, fun j => ?_⟩
    by_cases hj : j < fs.length
    · exact h3 j (by simpa using hj)
    · unfold okT; rw [List.getElem?_eq_none (by omega)]
  · rintro ⟨h1, h2, h3⟩
    exact ⟨⟨h1, h2⟩, fun j _ => h3 j⟩
theorem okT_iff (h : fs[j]? = some (g, fu, C, D)) : okT K fs j = true ↔ lastG fs j < g ∧ g ≤ 2147483647 ∧ (fu = true ↔ j % K = 0) ∧ (fu = true → rightC C = true ∧ D = []) ∧ (fu = false → apE ((patL fs j).getD (j - 1) []) D = 0 ∧ C = []) := by
  unfold okT
  rw [h]
  cases fu with
  | false =>
    show (decide (lastG fs j < g ∧ g ≤ 2147483647) && (false == decide (j % K = 0)) && (if (false : Bool) = true then rightC C && D.isEmpty else decide (apE ((patL fs j).getD (j - 1) []) D = 0) && C.isEmpty)) = true ↔ _
    rw [if_neg (show ¬((false : Bool) = true) by simp), Bool.and_eq_true, Bool.and_eq_true, Bool.and_eq_true, decide_eq_true_eq, decide_eq_true_eq, List.isEmpty_iff, beq_iff_eq]
    constructor
    · rintro ⟨⟨h1, h2⟩, h3⟩
      have h2' := of_decide_eq_false h2.symm
      exact ⟨h1.1, h1.2, ⟨fun e => (by cases e), fun e => absurd e h2'⟩, fun e => (by cases e), fun _ => h3⟩
    · rintro ⟨h1, h2, h3, _, h5⟩
      exact ⟨⟨⟨h1, h2⟩, (decide_eq_false fun e => by have := h3.2 e; cases this).symm⟩, h5 rfl⟩
  | true =>
    show (decide (lastG fs j < g ∧ g ≤ 2147483647) && (true == decide (j % K = 0)) && (if (true : Bool) = true then rightC C && D.isEmpty else decide (apE ((patL fs j).getD (j - 1) []) D = 0) && C.isEmpty)) = true ↔ _
    rw [if_pos rfl, Bool.and_eq_true, Bool.and_eq_true, Bool.and_eq_true, decide_eq_true_eq, List.isEmpty_iff, beq_iff_eq]
    constructor
    · rintro ⟨⟨h1, h2⟩, h3⟩
      have h2' := of_decide_eq_true h2.symm
      exact ⟨h1.1, h1.2, ⟨fun _ => h2', fun _ => rfl⟩, fun _ => h3, fun e => (by cases e)⟩
    · rintro ⟨h1, h2, h3, h4, _⟩
      exact ⟨⟨⟨h1, h2⟩, (decide_eq_true (h3.1 rfl)).symm⟩, h4 rfl⟩
theorem okT_no (h : fs[j]? = some (g, fu, C, D)) (hn : ¬(lastG fs j < g ∧ g ≤ 2147483647 ∧ (fu = true ↔ j % K = 0) ∧ (fu = true → rightC C = true ∧ D = []) ∧ (fu = false → apE ((patL fs j).getD (j - 1) []) D = 0 ∧ C = []))) : okT K fs j = false := by
  rw [Bool.eq_false_iff]
  exact fun e => hn ((okT_iff h).1 e)
theorem tlB_ok (h : tlB key fs = true) : ∃ K : Nat, key = (K : Int) ∧ 1 ≤ K ∧ K ≤ 100 ∧ fs.length ≤ 1000 ∧ ∀ j, okT K fs j = true := by
  obtain ⟨h1, h2, h3⟩ := tlB_iff.1 h
  exact ⟨key.toNat, by omega, by omega, by omega, h2, h3⟩
theorem pat_right (h : ∀ j, okT K fs j = true) : ∀ j, j ≤ fs.length → ∀ p ∈ patL fs j, rightC p = true
  | 0, _, p, hp => by cases hp
  | j + 1, hj, p, hp => by
    obtain ⟨⟨g, fu, C, D⟩, hf⟩ : ∃ f, fs[j]? = some f := ⟨_, List.getElem?_eq_getElem (by omega)⟩
    rw [pat_step hf] at hp
    rcases List.mem_append.1 hp with hp | hp
    · exact pat_right h j (by omega) p hp
    · obtain rfl : p = _ := by simpa using hp
      have ho := (okT_iff hf).1 (h j)
      unfold nxP
      cases fu with
      | true => rw [if_pos rfl]; exact (ho.2.2.2.1 rfl).1
      | false => rw [if_neg (by simp)]; exact apL_right (ho.2.2.2.2 rfl).1
def bldF (K : Nat) (g : List Int) (l : List (List Cel)) (i : Nat) : TFr := (g.getD i 0, decide (i % K = 0), if i % K = 0 then l.getD i [] else [], if i % K = 0 then [] else ofL (l.getD (i - 1) []) (l.getD i []))
def bldL (K : Nat) (g : List Int) (l : List (List Cel)) : Nat → List TFr
  | 0 => []
  | i + 1 => bldL K g l i ++ [bldF K g l i]
def gnL (fs : List TFr) : List Int := fs.map fun f => f.1
theorem bld_len {g : List Int} {l : List (List Cel)} : ∀ i, (bldL K g l i).length = i
  | 0 => rfl
  | i + 1 => by show (bldL K g l i ++ _).length = _; rw [List.length_append, bld_len i]; rfl
theorem bld_at {g : List Int} {l : List (List Cel)} {j : Nat} : ∀ i, j < i → (bldL K g l i)[j]? = some (bldF K g l j)
  | 0, h => by omega
  | i + 1, h => by
    show (bldL K g l i ++ [bldF K g l i])[j]? = _
    by_cases e : j = i
    · subst e
      rw [List.getElem?_append_right (by rw [bld_len]; exact Nat.le_refl _), bld_len, Nat.sub_self]; rfl
    · rw [List.getElem?_append_left (by rw [bld_len]; omega)]
      exact bld_at i (by omega)
theorem bld_congr {g g' : List Int} {l l' : List (List Cel)} : ∀ i, (∀ j, j < i → g.getD j 0 = g'.getD j 0 ∧ l.getD j [] = l'.getD j []) → bldL K g l i = bldL K g' l' i
  | 0, _ => rfl
  | i + 1, h => by
    show bldL K g l i ++ [bldF K g l i] = bldL K g' l' i ++ [bldF K g' l' i]
    rw [bld_congr i fun j hj => h j (by omega)]
    obtain ⟨h1, h2⟩ := h i (by omega)
    have h3 : l.getD (i - 1) [] = l'.getD (i - 1) [] := (h (i - 1) (by omega)).2
    unfold bldF
    rw [h1, h2, h3]
theorem pat_get {i : Nat} : ∀ j, j ≤ fs.length → i < j → (patL fs j).getD i [] = (patL fs (i + 1)).getD i []
  | 0, _, h => by omega
  | j + 1, hj, h => by
    by_cases e : i = j
    · rw [e]
    · obtain ⟨⟨g, fu, C, D⟩, hf⟩ : ∃ f, fs[j]? = some f := ⟨_, List.getElem?_eq_getElem (by omega)⟩
      rw [pat_step hf, List.getD_eq_getElem?_getD, List.getElem?_append_left (by rw [pat_len j (by omega)]; omega), ← List.getD_eq_getElem?_getD]
      exact pat_get j (by omega) (by omega)
theorem getD_of {α : Type} {l : List α} {i : Nat} {x d : α} (h : l[i]? = some x) : l.getD i d = x := by rw [List.getD_eq_getElem?_getD, h]; rfl
theorem pat_new (h : fs[j]? = some (g, fu, C, D)) : (patL fs (j + 1)).getD j [] = nxP (patL fs j) j (g, fu, C, D) := by
  rw [pat_step h]
  have hl : (patL fs j).length = j := pat_len j (by have := (List.getElem?_eq_some_iff.1 h).1; omega)
  rw [List.getD_eq_getElem?_getD, List.getElem?_append_right (by omega), hl, Nat.sub_self]; rfl
theorem bld_of (hK : 1 ≤ K) (h : ∀ j, okT K fs j = true) : bldL K (gnL fs) (patL fs fs.length) fs.length = fs := by
  apply List.ext_getElem?
  intro i
  by_cases hi : i < fs.length
  · rw [bld_at _ hi]
    obtain ⟨⟨g, fu, C, D⟩, hf⟩ : ∃ f, fs[i]? = some f := ⟨_, List.getElem?_eq_getElem hi⟩
    rw [hf]
    have ho := (okT_iff hf).1 (h i)
    have hg : (gnL fs).getD i 0 = g := getD_of (by unfold gnL; rw [List.getElem?_map, hf]; rfl)
    have hp : (patL fs fs.length).getD i [] = nxP (patL fs i) i (g, fu, C, D) := by rw [pat_get _ (Nat.le_refl _) hi, pat_new hf]
    unfold bldF
    rw [hg, hp]
    unfold nxP
    cases fu with
    | true =>
      have h0 := ho.2.2.1.1 rfl
      obtain ⟨_, rfl⟩ := ho.2.2.2.1 rfl
      rw [if_pos h0, if_pos h0, decide_eq_true h0]
      rfl
    | false =>
      have h0 : ¬ i % K = 0 := fun e => by have := ho.2.2.1.2 e; cases this
      obtain ⟨ha, rfl⟩ := ho.2.2.2.2 rfl
      have hpos : 0 < i := by rcases Nat.eq_zero_or_pos i with rfl | h1; exact absurd (Nat.zero_mod K) h0; exact h1
      have hp1 : (patL fs fs.length).getD (i - 1) [] = (patL fs i).getD (i - 1) [] := by
        rw [pat_get _ (Nat.le_refl _) (by omega), pat_get i (by omega) (by omega)]
      rw [if_neg h0, if_neg h0, decide_eq_false h0, hp1]
      have hr := (apE_right ha).1
      have hr2 := apL_right ha
      show some (g, false, [], ofL _ (apL _ D)) = _
      unfold ofL
      rw [if_pos ⟨hr, hr2⟩, of_ap ha]
  · rw [List.getElem?_eq_none (by rw [bld_len]; omega), List.getElem?_eq_none (by omega)]
theorem bld_snoc {g : List Int} {l : List (List Cel)} {x : Int} {p : List Cel} (hg : g.length = n) (hl : l.length = n) : bldL K (g ++ [x]) (l ++ [p]) (n + 1) = bldL K g l n ++ [bldF K (g ++ [x]) (l ++ [p]) n] := by
  show bldL K (g ++ [x]) (l ++ [p]) n ++ _ = _
  rw [bld_congr n fun j hj => ?_]
  constructor
  · rw [List.getD_eq_getElem?_getD, List.getElem?_append_left (by omega), ← List.getD_eq_getElem?_getD]
  · rw [List.getD_eq_getElem?_getD, List.getElem?_append_left (by omega), ← List.getD_eq_getElem?_getD]
theorem tl_gens (h : ∀ j, okT K fs j = true) {j : Nat} (hj : j < fs.length) : (gnL fs).getD j 0 ≤ 2147483647 ∧ 0 ≤ (gnL fs).getD j 0 ∧ (0 < j → (gnL fs).getD (j - 1) 0 < (gnL fs).getD j 0) := by
  have hgi : ∀ i, i < fs.length → ∃ f, fs[i]? = some f ∧ (gnL fs).getD i 0 = f.1 := fun i hi => ⟨_, List.getElem?_eq_getElem hi, getD_of (by unfold gnL; rw [List.getElem?_map, List.getElem?_eq_getElem hi]; rfl)⟩
  have key : ∀ i, i < fs.length → lastG fs i < (gnL fs).getD i 0 ∧ (gnL fs).getD i 0 ≤ 2147483647 := fun i hi => by
    obtain ⟨⟨g, fu, C, D⟩, h1, h2⟩ := hgi i hi
    have := (okT_iff h1).1 (h i)
    rw [h2]
    exact ⟨this.1, this.2.1⟩
  have hlast : ∀ i, i ≤ fs.length → -1 ≤ lastG fs i := by
    intro i
    induction i with
    | zero => intro _; exact Int.le_refl _
    | succ i ih =>
      intro hi
      obtain ⟨f, h1, h2⟩ := hgi i (by omega)
      have := key i (by omega)
      have := ih (by omega)
      show -1 ≤ (match fs[i]? with | none => -1 | some f => f.1)
      rw [h1]
      simp only
      omega
  refine ⟨(key j hj).2, by have := (key j hj).1; have := hlast j (by omega); omega, fun h0 => ?_⟩
  obtain ⟨i, rfl⟩ : ∃ i, j = i + 1 := ⟨j - 1, by omega⟩
  have h1 := (key (i + 1) hj).1
  obtain ⟨f, h2, h3⟩ := hgi i (by omega)
  rw [Nat.add_sub_cancel, h3]
  have h4 : lastG fs (i + 1) = f.1 := by
    show (match fs[i]? with | none => -1 | some f => f.1) = _
    rw [h2]
  rw [h4] at h1
  exact h1
end
end Go.Proofs.YtfdihjjnlmhibaaGreat
end
section
namespace Go.Proofs.YtfdihjjnlmhibaaGreat
open Go Go.RowKit
theorem srt_of {m : List (Int × Int × Int)} (hn : (m.map posD).Nodup) : SSC (srtC m) := ssc_iff.2 ⟨srtC_wc m, ((srtC_perm m).map posD).nodup_iff.2 hn⟩
theorem srt_eq {m r : List (Int × Int × Int)} (hn : (m.map posD).Nodup) (hr : SSC r) (he : ∀ z, z ∈ r ↔ z ∈ m) : srtC m = r :=
  ssc_unique _ _ (srt_of hn) hr fun z => by rw [(srtC_perm m).mem_iff, he]
def okCells (m : List (Int × Int × Int)) : Prop := ∀ c ∈ m, Pt c.1 c.2.1 ∧ 1 ≤ c.2.2 ∧ c.2.2 ≤ 7
theorem frBad_ok' {x y s : Int} (h : validB x y = true) (h1 : 0 ≤ s) (h2 : s ≤ 7) : frBad (x, y, s) = 0 := by unfold frBad; rw [if_pos h, if_pos ⟨h1, h2⟩]
theorem frL_cells {m : List (Int × Int × Int)} (hv : okCells m) (hn : (m.map posD).Nodup) (hl : m.length ≤ 5000) : frE m = 0 ∧ frL m = srtC m := by
  have hz : nz m = m := List.filter_eq_self.2 fun c hc => by unfold nzC; exact decide_eq_true (by have := hv c hc; omega)
  have hf : frFirst m = 0 := by
    refine frFirst_good fun i d hd => ?_
    have := hv d (List.mem_of_getElem? hd)
    obtain ⟨x, y, s⟩ := d
    exact frBad_ok' (validB_iff.2 this.1) (by have := this.2.1; simp only at this; omega) this.2.2
  have he : frE m = 0 := frE_ok hf (by rw [hz]; exact ssB_iff.2 (srt_of hn)) (by rw [hz]; exact hl)
  exact ⟨he, by rw [frL_ok he, hz]⟩
section
variable {a b : List (Int × Int × Int)}
end
section
variable {a b : List (Int × Int × Int)}
end
end Go.Proofs.YtfdihjjnlmhibaaGreat
end
section
namespace Go.Proofs.YtfdihjjnlmhibaaGreat
open Go Go.RowKit
def nrD (d : Int) (a b : Int × Int × Int) : Bool := decide (a.1 - b.1 ≤ d ∧ b.1 - a.1 ≤ d ∧ a.2.1 - b.2.1 ≤ d ∧ b.2.1 - a.2.1 ≤ d)
theorem nrD_comm (d : Int) (a b : Int × Int × Int) : nrD d a b = nrD d b a := by
  unfold nrD; exact decide_eq_decide.2 (by omega)
inductive Rch (l : List (Int × Int × Int)) (d : Int) : Nat → Nat → Prop
  | refl {i : Nat} : i < l.length → Rch l d i i
  | step {i j k : Nat} {a b : Int × Int × Int} : Rch l d i j → l[j]? = some a → l[k]? = some b → nrD d a b = true → Rch l d i k
section
variable {l : List (Int × Int × Int)} {d : Int} {i j k : Nat}
theorem lt_of_some {α : Type} {l : List α} {k : Nat} {b : α} (h : l[k]? = some b) : k < l.length := (List.getElem?_eq_some_iff.1 h).1
theorem Rch.right (h : Rch l d i j) : j < l.length := by
  cases h with
  | refl h => exact h
  | step _ _ h _ => exact lt_of_some h
theorem Rch.left (h : Rch l d i j) : i < l.length := by
  induction h with
  | refl h => exact h
  | step _ _ _ _ ih => exact ih
theorem Rch.trans (h : Rch l d i j) (g : Rch l d j k) : Rch l d i k := by
  induction g with
  | refl _ => exact h
  | step _ h1 h2 h3 ih => exact .step ih h1 h2 h3
theorem Rch.one {a b : Int × Int × Int} (ha : l[i]? = some a) (hb : l[j]? = some b) (h : nrD d a b = true) : Rch l d i j := .step (.refl (lt_of_some ha)) ha hb h
theorem Rch.symm (h : Rch l d i j) : Rch l d j i := by
  induction h with
  | refl h => exact .refl h
  | step _ h1 h2 h3 ih => exact (Rch.one h2 h1 (by rw [nrD_comm]; exact h3)).trans ih
end
end Go.Proofs.YtfdihjjnlmhibaaGreat
end
section
namespace Go.Proofs.YtfdihjjnlmhibaaGreat
open Go Go.RowKit
/-- An element k of a node of level lv at index i is in order. -/
def nxOk (st : Int) (N : List (Int × List Int)) (lv : Int) (i : Nat) (k : Int) : Bool :=
  decide (0 ≤ k) && (decide (lv ≠ 1) || decide (k < st)) && (decide (lv ≤ 1) || (decide (k < i) && decide (((N[k.toNat]?).map (·.1)).getD 0 = lv - 1)))
/-- The node at index i is in order. -/
def ndOk (st : Int) (h : Nat) (N : List (Int × List Int)) (i : Nat) : Bool := match N[i]? with
  | none => true
  | some x => decide (1 ≤ x.1 ∧ x.1 ≤ h ∧ (x.2.length : Int) = st) && x.2.all (nxOk st N x.1 i)
def lastLv (N : List (Int × List Int)) : Int := ((N[N.length - 1]?).map (·.1)).getD 0
def trR (st : Int) (H : List (Int × Int)) (N : List (Int × List Int)) : Bool :=
  decide (2 ≤ st ∧ st ≤ 8) && rightL H && decide (1 ≤ N.length ∧ N.length ≤ 4096) && decide (lastLv N = H.length) && (List.range N.length).all (ndOk st H.length N)
/-- On to the node or state that state s leads to from node k. -/
def stepV (N : List (Int × List Int)) (k s : Int) : Int := ((N[k.toNat]?).bind fun x => x.2[s.toNat]?).getD 0
def valK (N : List (Int × List Int)) (ins : List Int) (j : Nat) : Int := (ins.take j).foldl (stepV N) ((N.length : Int) - 1)
def valT (N : List (Int × List Int)) (ins : List Int) : Int := ins.foldl (stepV N) ((N.length : Int) - 1)
/-- A neighbourhood of zeros leads to zero. -/
def trQ (st : Int) (H : List (Int × Int)) (N : List (Int × List Int)) : Bool := trR st H N && decide (valT N (List.replicate H.length 0) = 0)
section
variable {st : Int} {H : List (Int × Int)} {N : List (Int × List Int)} {n : Nat}
theorem trR_states (h : st < 2 ∨ 8 < st) : trR st H N = false := by
  unfold trR; rw [decide_eq_false (by omega)]; rfl
theorem trR_hood (h : rightL H = false) : trR st H N = false := by
  unfold trR; rw [h]; simp
theorem trR_size (hl : N.length = n) (h : n < 1 ∨ 4096 < n) : trR st H N = false := by
  unfold trR; rw [hl, decide_eq_false (show ¬(1 ≤ n ∧ n ≤ 4096) by omega)]; simp
theorem trR_last {x : Int × List Int} (hl : N.length = n) (hx : N[n - 1]? = some x) {m : Nat} (hm : H.length = m) (h : x.1 ≠ m) : trR st H N = false := by
  unfold trR lastLv
  rw [hl, hx, hm, decide_eq_false (show ¬((Option.map (·.1) (some x)).getD 0 = (m : Int)) from h)]; simp
theorem trR_node {i : Nat} (hi : i < N.length) (h : ndOk st H.length N i = false) : trR st H N = false := by
  unfold trR
  have : (List.range N.length).all (ndOk st H.length N) = false := by
    rw [List.all_eq_false]; exact ⟨i, by simpa using hi, by rw [h]; simp⟩
  rw [this]; simp
theorem trR_all {x : Int × List Int} (h1 : 2 ≤ st ∧ st ≤ 8) (h2 : rightL H = true) (hl : N.length = n) (h3 : 1 ≤ n ∧ n ≤ 4096) (hx : N[n - 1]? = some x) {m : Nat} (hm : H.length = m) (h4 : x.1 = m) (h5 : ∀ i, i < n → ndOk st m N i = true) : trR st H N = true := by
  unfold trR lastLv
  rw [hl, hx, hm, h2, decide_eq_true h1, decide_eq_true h3, decide_eq_true (show ((Option.map (·.1) (some x)).getD 0 = (m : Int)) from h4)]
  simp only [Bool.true_and, List.all_eq_true]
  intro i hi
  exact h5 i (by simpa using hi)
theorem ndOk_head {m i : Nat} {x : Int × List Int} (hx : N[i]? = some x) (h : x.1 < 1 ∨ (m : Int) < x.1 ∨ (x.2.length : Int) ≠ st) : ndOk st m N i = false := by
  unfold ndOk; rw [hx]; simp only; rw [decide_eq_false (by omega)]; rfl
theorem ndOk_elem {m i j : Nat} {x : Int × List Int} {k : Int} (hx : N[i]? = some x) (hk : x.2[j]? = some k) (h : nxOk st N x.1 i k = false) : ndOk st m N i = false := by
  unfold ndOk; rw [hx]; simp only
  have : x.2.all (nxOk st N x.1 i) = false := by
    rw [List.all_eq_false]; exact ⟨k, List.mem_of_getElem? hk, by rw [h]; simp⟩
  rw [this]; simp
theorem ndOk_all {m i : Nat} {x : Int × List Int} (hx : N[i]? = some x) (h1 : 1 ≤ x.1) (h2 : x.1 ≤ (m : Int)) (h3 : (x.2.length : Int) = st) (h : ∀ (j : Nat) k, j < x.2.length → x.2[j]? = some k → nxOk st N x.1 i k = true) : ndOk st m N i = true := by
  unfold ndOk; rw [hx]; simp only
  rw [decide_eq_true ⟨h1, h2, h3⟩, Bool.true_and, List.all_eq_true]
  intro k hk
  obtain ⟨j, hj, rfl⟩ := List.getElem_of_mem hk
  exact h j _ hj (List.getElem?_eq_getElem hj)
theorem nxOk_neg {lv k : Int} {i : Nat} (h : k < 0) : nxOk st N lv i k = false := by
  unfold nxOk; rw [decide_eq_false (show ¬ 0 ≤ k by omega)]; rfl
theorem nxOk_leaf {k : Int} {i : Nat} (h : 0 ≤ k) : nxOk st N 1 i k = decide (k < st) := by
  unfold nxOk; rw [decide_eq_true h]; simp
theorem nxOk_far {lv k : Int} {i : Nat} (hv : 1 < lv) (h : (i : Int) ≤ k) : nxOk st N lv i k = false := by
  unfold nxOk; rw [decide_eq_false (show ¬ lv ≤ 1 by omega), decide_eq_false (show ¬ k < i by omega)]; simp
theorem nxOk_node {lv k : Int} {i : Nat} {y : Int × List Int} (hv : 1 < lv) (h0 : 0 ≤ k) (h : k < i) (hy : N[k.toNat]? = some y) : nxOk st N lv i k = decide (y.1 = lv - 1) := by
  unfold nxOk; rw [decide_eq_false (show ¬ lv ≤ 1 by omega), decide_eq_true h, decide_eq_true h0, decide_eq_true (show lv ≠ 1 by omega), hy]; simp
theorem trR_parts (h : trR st H N = true) : (2 ≤ st ∧ st ≤ 8) ∧ rightL H = true ∧ (1 ≤ N.length ∧ N.length ≤ 4096) ∧ lastLv N = H.length ∧ ∀ i, i < N.length → ndOk st H.length N i = true := by
  unfold trR at h
  simp only [Bool.and_eq_true, decide_eq_true_eq, List.all_eq_true] at h
  obtain ⟨⟨⟨⟨h1, h2⟩, h3⟩, h4⟩, h5⟩ := h
  exact ⟨h1, h2, h3, h4, fun i hi => h5 i (by simpa using hi)⟩
theorem ndOk_parts {m i : Nat} {x : Int × List Int} (h : ndOk st m N i = true) (hx : N[i]? = some x) : 1 ≤ x.1 ∧ x.1 ≤ (m : Int) ∧ (x.2.length : Int) = st ∧ ∀ (j : Nat) k, x.2[j]? = some k → nxOk st N x.1 i k = true := by
  unfold ndOk at h
  rw [hx] at h
  simp only [Bool.and_eq_true, decide_eq_true_eq, List.all_eq_true] at h
  exact ⟨h.1.1, h.1.2.1, h.1.2.2, fun j k hk => h.2 k (List.mem_of_getElem? hk)⟩
theorem valK_step {ins : List Int} {j : Nat} {s : Int} (h : ins[j]? = some s) : valK N ins (j + 1) = stepV N (valK N ins j) s := by
  unfold valK; rw [List.take_add_one, h, List.foldl_append]; rfl
theorem valK_all {ins : List Int} (h : ins.length = n) : valK N ins n = valT N ins := by
  unfold valK valT; rw [List.take_of_length_le (by omega)]
theorem stepV_at {k s t : Int} {x : Int × List Int} (hx : N[k.toNat]? = some x) (ht : x.2[s.toNat]? = some t) : stepV N k s = t := by
  unfold stepV; rw [hx]; simp only [Option.bind_some]; rw [ht]; rfl
/-- What the walk through a valid tree meets. -/
theorem valK_inv (h : trR st H N = true) {ins : List Int} (hl : ins.length = H.length) (hs : ∀ s ∈ ins, 0 ≤ s ∧ s < st) : ∀ j, j ≤ ins.length → 0 ≤ valK N ins j ∧ (j < ins.length → ∃ x, N[(valK N ins j).toNat]? = some x ∧ valK N ins j < N.length ∧ x.1 = (ins.length : Int) - j ∧ (x.2.length : Int) = st) ∧ (j = ins.length → valK N ins j < st)
  | 0, h0 => by
    obtain ⟨h1, h2, h3, h4, h5⟩ := trR_parts h
    have e : valK N ins 0 = (N.length : Int) - 1 := rfl
    have hh : 1 ≤ H.length := by
      unfold rightL at h2
      rw [Bool.and_eq_true, decide_eq_true_eq] at h2
      exact h2.1.1
    have hx : N[N.length - 1]? = some N[N.length - 1] := List.getElem?_eq_getElem (by omega)
    have hn := ndOk_parts (h5 (N.length - 1) (by omega)) hx
    refine ⟨by rw [e]; omega, fun _ => ⟨N[N.length - 1], ?_, by rw [e]; omega, ?_, hn.2.2.1⟩, fun h => by omega⟩
    · rw [e, show ((N.length : Int) - 1).toNat = N.length - 1 by omega]; exact hx
    · unfold lastLv at h4
      rw [hx] at h4
      simp only [Option.map_some, Option.getD_some] at h4
      omega
  | j + 1, hj => by
    obtain ⟨h1, h2, h3, h4, h5⟩ := trR_parts h
    obtain ⟨i1, i2, _⟩ := valK_inv h hl hs j (by omega)
    obtain ⟨x, hx, hk, hlv, hlen⟩ := i2 (by omega)
    have hsj : ins[j]? = some ins[j] := List.getElem?_eq_getElem (by omega)
    obtain ⟨s0, s1⟩ := hs ins[j] (List.getElem_mem _)
    have hlt : (ins[j]).toNat < x.2.length := by omega
    have ht : x.2[(ins[j]).toNat]? = some x.2[(ins[j]).toNat] := List.getElem?_eq_getElem hlt
    have hnd := ndOk_parts (h5 (valK N ins j).toNat (by omega)) hx
    have hok := hnd.2.2.2 _ _ ht
    rw [valK_step hsj, stepV_at hx ht]
    generalize x.2[(ins[j]).toNat] = t at hok
    have t0 : 0 ≤ t := by
      rcases Int.lt_or_le t 0 with hn | hn
      · rw [nxOk_neg hn] at hok; cases hok
      · exact hn
    refine ⟨t0, fun hjl => ?_, fun hjl => ?_⟩
    · have hv : 1 < x.1 := by omega
      have hti : t < ((valK N ins j).toNat : Int) := by
        rcases Int.lt_or_le t ((valK N ins j).toNat : Int) with hn | hn
        · exact hn
        · rw [nxOk_far hv hn] at hok; cases hok
      have hy : N[t.toNat]? = some (N[t.toNat]'(by omega)) := List.getElem?_eq_getElem (by omega)
      rw [nxOk_node hv t0 hti hy] at hok
      have hyl := of_decide_eq_true hok
      have hnd2 := ndOk_parts (h5 t.toNat (by omega)) hy
      exact ⟨_, hy, by omega, by omega, hnd2.2.2.1⟩
    · have hv : x.1 = 1 := by omega
      rw [hv, nxOk_leaf t0] at hok
      exact of_decide_eq_true hok
theorem valT_range (h : trR st H N = true) {ins : List Int} (hl : ins.length = H.length) (hs : ∀ s ∈ ins, 0 ≤ s ∧ s < st) : 0 ≤ valT N ins ∧ valT N ins < st := by
  obtain ⟨h1, _, h2⟩ := valK_inv h hl hs ins.length (Nat.le_refl _)
  rw [valK_all rfl] at h1 h2
  exact ⟨h1, h2 rfl⟩
end
end Go.Proofs.YtfdihjjnlmhibaaGreat
end
section
namespace Go.Proofs.YtfdihjjnlmhibaaGreat
open Go Go.RowKit
/-- The new state at a position. -/
def nxT (H : List (Int × Int)) (N : List (Int × List Int)) (p : List (Int × Int × Int)) (x y : Int) : Int := valT N (H.map fun o => getC p (x + o.1) (y + o.2))
/-- The positions whose neighbourhoods meet the pattern. -/
def candL (H : List (Int × Int)) (p : List (Int × Int × Int)) : List (Int × Int) := p.flatMap fun c => H.map fun o => (c.1 - o.1, c.2.1 - o.2)
def dd : List (Int × Int) → List (Int × Int)
  | [] => []
  | a :: l => a :: (dd l).filter fun q => decide (q ≠ a)
theorem dd_mem {q : Int × Int} : ∀ {l : List (Int × Int)}, q ∈ dd l ↔ q ∈ l
  | [] => Iff.rfl
  | a :: l => by
    unfold dd
    rw [List.mem_cons, List.mem_cons, List.mem_filter, dd_mem (l := l)]
    by_cases h : q = a
    · simp [h]
    · simp [h]
theorem dd_nodup : ∀ l : List (Int × Int), (dd l).Nodup
  | [] => List.nodup_nil
  | a :: l => by
    unfold dd
    refine List.nodup_cons.2 ⟨fun h => ?_, (dd_nodup l).filter _⟩
    have := (List.mem_filter.1 h).2
    simp at this
def genR (H : List (Int × Int)) (N : List (Int × List Int)) (p : List (Int × Int × Int)) : List (Int × Int × Int) := (dd (candL H p)).filterMap fun q => if nxT H N p q.1 q.2 = 0 then none else some (q.1, q.2, nxT H N p q.1 q.2)
/-- A list of the cells of the next generation that are not 0, in any order. -/
def IsGen (H : List (Int × Int)) (N : List (Int × List Int)) (p l : List (Int × Int × Int)) : Prop := (l.map posD).Nodup ∧ ∀ x y s, (x, y, s) ∈ l ↔ s = nxT H N p x y ∧ s ≠ 0
/-- The same, of some positions only. -/
def GenC (cand : List (Int × Int)) (H : List (Int × Int)) (N : List (Int × List Int)) (p l : List (Int × Int × Int)) : Prop := (l.map posD).Nodup ∧ ∀ x y s, (x, y, s) ∈ l ↔ (x, y) ∈ cand ∧ s = nxT H N p x y ∧ s ≠ 0
/-- The rule is quiet and the pattern fits it. -/
structure FitsR (st : Int) (H : List (Int × Int)) (N : List (Int × List Int)) (p : List (Int × Int × Int)) : Prop where
  rule : trQ st H N = true
  pat : rightC p = true
  top : ∀ c ∈ p, c.2.2 < st
def plD (c : Int × Int × Int) : Bool := validB c.1 c.2.1
def stE (H : List (Int × Int)) (N : List (Int × List Int)) (p : List (Int × Int × Int)) : Int := if (genR H N p).all plD = true then (if 5000 < (genR H N p).length then 6 else 0) else 5
def stL (H : List (Int × Int)) (N : List (Int × List Int)) (p : List (Int × Int × Int)) : List (Int × Int × Int) := if stE H N p = 0 then srtC (genR H N p) else []
section
variable {st : Int} {H : List (Int × Int)} {N : List (Int × List Int)} {p l l' : List (Int × Int × Int)} {x y s : Int} {cand : List (Int × Int)}
theorem trQ_parts (h : trQ st H N = true) : trR st H N = true ∧ valT N (List.replicate H.length 0) = 0 := by
  unfold trQ at h
  rw [Bool.and_eq_true, decide_eq_true_eq] at h
  exact h
theorem getC_or (h : SSC p) (x y : Int) : getC p x y = 0 ∨ ∃ s, (x, y, s) ∈ p ∧ getC p x y = s := by
  by_cases hx : ∃ s, (x, y, s) ∈ p
  · obtain ⟨s, hs⟩ := hx
    exact .inr ⟨s, hs, getC_mem h hs⟩
  · refine .inl (getC_not fun c hc e => hx ⟨c.2.2, ?_⟩)
    obtain ⟨a, b, s⟩ := c
    obtain ⟨rfl, rfl⟩ := e
    exact hc
theorem cell_right (h : rightC p = true) (hm : (x, y, s) ∈ p) : Pt x y ∧ 1 ≤ s ∧ s ≤ 7 := by
  obtain ⟨i, hi⟩ := List.getElem?_of_mem hm
  exact rightC_elem h hi
theorem FitsR.get (h : FitsR st H N p) (x y : Int) : 0 ≤ getC p x y ∧ getC p x y < st := by
  have hst := (trR_parts (trQ_parts h.rule).1).1
  rcases getC_or (rightC_sorted h.pat) x y with e | ⟨s, hs, e⟩
  · rw [e]; omega
  · have h1 := cell_right h.pat hs
    have h2 := h.top _ hs
    rw [e]; simp only at h2; omega
theorem FitsR.range (h : FitsR st H N p) (x y : Int) : 0 ≤ nxT H N p x y ∧ nxT H N p x y < st := by
  refine valT_range (trQ_parts h.rule).1 (by simp) fun s hs => ?_
  obtain ⟨o, _, rfl⟩ := List.mem_map.1 hs
  exact h.get _ _
theorem nx_zero (h : trQ st H N = true) (h0 : ∀ o ∈ H, getC p (x + o.1) (y + o.2) = 0) : nxT H N p x y = 0 := by
  unfold nxT
  rw [show (H.map fun o => getC p (x + o.1) (y + o.2)) = List.replicate H.length 0 from ?_]
  · exact (trQ_parts h).2
  · rw [List.eq_replicate_iff]
    refine ⟨by simp, fun b hb => ?_⟩
    obtain ⟨o, ho, rfl⟩ := List.mem_map.1 hb
    exact h0 o ho
/-- A position whose new state is not 0 has a cell in its neighbourhood. -/
theorem nx_cell (h : trQ st H N = true) (hS : SSC p) (hn : nxT H N p x y ≠ 0) : ∃ o ∈ H, ∃ s, (x + o.1, y + o.2, s) ∈ p := by
  by_cases hx : ∃ o ∈ H, getC p (x + o.1) (y + o.2) ≠ 0
  · obtain ⟨o, ho, hg⟩ := hx
    rcases getC_or hS (x + o.1) (y + o.2) with e | ⟨s, hs, _⟩
    · exact absurd e hg
    · exact ⟨o, ho, s, hs⟩
  · refine absurd (nx_zero h fun o ho => ?_) hn
    by_cases hg : getC p (x + o.1) (y + o.2) = 0
    · exact hg
    · exact absurd ⟨o, ho, hg⟩ hx
theorem mem_cand {q : Int × Int} : q ∈ candL H p ↔ ∃ c ∈ p, ∃ o ∈ H, q = (c.1 - o.1, c.2.1 - o.2) := by
  unfold candL
  simp only [List.mem_flatMap, List.mem_map]
  constructor
  · rintro ⟨c, hc, o, ho, rfl⟩; exact ⟨c, hc, o, ho, rfl⟩
  · rintro ⟨c, hc, o, ho, rfl⟩; exact ⟨c, hc, o, ho, rfl⟩
theorem nx_cand (h : trQ st H N = true) (hS : SSC p) (hn : nxT H N p x y ≠ 0) : (x, y) ∈ candL H p := by
  obtain ⟨o, ho, s, hs⟩ := nx_cell h hS hn
  refine mem_cand.2 ⟨_, hs, o, ho, ?_⟩
  simp only [Prod.mk.injEq]
  omega
theorem genR_is (h : trQ st H N = true) (hS : SSC p) : IsGen H N p (genR H N p) := by
  unfold genR
  refine ⟨?_, fun x y s => ?_⟩
  · have key : ∀ l : List (Int × Int), ((l.filterMap fun q => if nxT H N p q.1 q.2 = 0 then none else some (q.1, q.2, nxT H N p q.1 q.2)).map posD).Sublist l := by
      intro l
      induction l with
      | nil => exact List.Sublist.refl _
      | cons q l ih =>
        rw [List.filterMap_cons]
        by_cases h0 : nxT H N p q.1 q.2 = 0
        · rw [if_pos h0]; exact ih.cons _
        · rw [if_neg h0]; exact ih.cons_cons _
    exact (dd_nodup _).sublist (key _)
  · rw [List.mem_filterMap]
    constructor
    · rintro ⟨q, _, hq⟩
      by_cases h0 : nxT H N p q.1 q.2 = 0
      · rw [if_pos h0] at hq; cases hq
      · rw [if_neg h0] at hq
        simp only [Option.some.injEq, Prod.mk.injEq] at hq
        obtain ⟨rfl, rfl, rfl⟩ := hq
        exact ⟨rfl, h0⟩
    · rintro ⟨rfl, hn⟩
      exact ⟨(x, y), dd_mem.2 (nx_cand h hS hn), by rw [if_neg hn]⟩
theorem IsGen.srt (h : IsGen H N p l) (h' : IsGen H N p l') : srtC l = srtC l' ∧ l.length = l'.length ∧ l.all plD = l'.all plD := by
  have hm : ∀ z, z ∈ l ↔ z ∈ l' := fun ⟨x, y, s⟩ => by rw [h.2, h'.2]
  have e : srtC l = srtC l' := srt_eq h.1 (srt_of h'.1) fun z => by rw [(srtC_perm l').mem_iff, hm]
  refine ⟨e, by rw [← (srtC_perm l).length_eq, e, (srtC_perm l').length_eq], ?_⟩
  rw [Bool.eq_iff_iff, List.all_eq_true, List.all_eq_true]
  exact ⟨fun g z hz => g z ((hm z).2 hz), fun g z hz => g z ((hm z).1 hz)⟩
/-- What From answers for good cells at different positions. -/
theorem fr_cells (hv : okCells l) (hn : (l.map posD).Nodup) : frE l = (if 5000 < l.length then 6 else 0) ∧ frL l = if 5000 < l.length then [] else srtC l := by
  by_cases hl : 5000 < l.length
  · rw [if_pos hl, if_pos hl]
    have hz : nz l = l := List.filter_eq_self.2 fun c hc => by unfold nzC; exact decide_eq_true (by have := hv c hc; omega)
    have hf : frFirst l = 0 := by
      refine frFirst_good fun i d hd => ?_
      have := hv d (List.mem_of_getElem? hd)
      obtain ⟨x, y, s⟩ := d
      exact frBad_ok' (validB_iff.2 this.1) (by have := this.2.1; simp only at this; omega) this.2.2
    have he : frE l = 6 := frE_size hf (by rw [hz]; exact ssB_iff.2 (srt_of hn)) (by rw [hz]; exact hl)
    exact ⟨he, frL_no he (by omega)⟩
  · rw [if_neg hl, if_neg hl]
    exact frL_cells hv hn (by omega)
theorem IsGen.ok (h : IsGen H N p l) (hf : FitsR st H N p) (hp : l.all plD = true) : okCells l := by
  rintro ⟨x, y, s⟩ hc
  have hst := (trR_parts (trQ_parts hf.rule).1).1
  obtain ⟨e, h0⟩ := (h.2 x y s).1 hc
  have hr := hf.range x y
  rw [← e] at hr
  exact ⟨validB_iff.1 ((List.all_eq_true.1 hp) _ hc), by simp only; omega, by simp only; omega⟩
/-- The program's way: From of the cells found. -/
theorem fr_gen (hf : FitsR st H N p) (h : IsGen H N p l) (hp : l.all plD = true) : frE l = stE H N p ∧ frL l = stL H N p := by
  obtain ⟨e1, e2, e3⟩ := h.srt (genR_is hf.rule (rightC_sorted hf.pat))
  obtain ⟨f1, f2⟩ := fr_cells (h.ok hf hp) h.1
  rw [hp] at e3
  have hE : stE H N p = if 5000 < l.length then 6 else 0 := by unfold stE; rw [if_pos e3.symm, e2]
  refine ⟨by rw [f1, hE], ?_⟩
  unfold stL
  rw [f2, hE]
  by_cases hl : 5000 < l.length
  · rw [if_pos hl, if_pos hl, if_neg (by omega)]
  · rw [if_neg hl, if_neg hl, if_pos rfl, e1]
theorem st_bad (hf : FitsR st H N p) (h : ∃ x y, nxT H N p x y ≠ 0 ∧ ¬ Pt x y) : stE H N p = 5 ∧ stL H N p = [] := by
  obtain ⟨x, y, h1, h2⟩ := h
  have hg := genR_is hf.rule (rightC_sorted hf.pat)
  have e : stE H N p = 5 := by
    unfold stE
    rw [if_neg]
    intro hp
    exact h2 (validB_iff.1 ((List.all_eq_true.1 hp) _ ((hg.2 x y _).2 ⟨rfl, h1⟩)))
  exact ⟨e, by unfold stL; rw [e, if_neg (by omega)]⟩
theorem st_fits (hf : FitsR st H N p) : FitsR st H N (stL H N p) := by
  have hg := genR_is hf.rule (rightC_sorted hf.pat)
  unfold stL
  by_cases he : stE H N p = 0
  · rw [if_pos he]
    have hp : (genR H N p).all plD = true := by
      unfold stE at he
      by_cases hp : (genR H N p).all plD = true
      · exact hp
      · rw [if_neg hp] at he; omega
    have hl : (genR H N p).length ≤ 5000 := by
      unfold stE at he
      rw [if_pos hp] at he
      by_cases hl : 5000 < (genR H N p).length
      · rw [if_pos hl] at he; omega
      · omega
    have hok := hg.ok hf hp
    refine ⟨hf.rule, rightC_of (by rw [(srtC_perm _).length_eq]; exact hl) (fun c hc => hok c ((srtC_perm _).mem_iff.1 hc)) (srt_of hg.1), fun c hc => ?_⟩
    obtain ⟨x, y, s⟩ := c
    obtain ⟨e, _⟩ := (hg.2 x y s).1 ((srtC_perm _).mem_iff.1 hc)
    have := hf.range x y
    simp only
    omega
  · rw [if_neg he]
    exact ⟨hf.rule, by decide, fun c hc => by cases hc⟩
theorem genC_nil : GenC [] H N p [] := ⟨List.nodup_nil, fun x y s => by simp⟩
theorem GenC.old {q : Int × Int} (h : GenC cand H N p l) (hq : q ∈ cand) : GenC (cand ++ [q]) H N p l := by
  refine ⟨h.1, fun x y s => ?_⟩
  rw [h.2, List.mem_append]
  constructor
  · rintro ⟨h1, h2⟩; exact ⟨.inl h1, h2⟩
  · rintro ⟨h1 | h1, h2⟩
    · exact ⟨h1, h2⟩
    · rw [List.mem_singleton] at h1; exact ⟨by rw [h1]; exact hq, h2⟩
theorem GenC.zero {a b : Int} (h : GenC cand H N p l) (h0 : nxT H N p a b = 0) : GenC (cand ++ [(a, b)]) H N p l := by
  refine ⟨h.1, fun x y s => ?_⟩
  rw [h.2, List.mem_append]
  constructor
  · rintro ⟨h1, h2⟩; exact ⟨.inl h1, h2⟩
  · rintro ⟨h1 | h1, h2⟩
    · exact ⟨h1, h2⟩
    · simp only [List.mem_singleton, Prod.mk.injEq] at h1
      obtain ⟨rfl, rfl⟩ := h1
      exact absurd (h2.1.trans h0) h2.2
theorem GenC.new {a b : Int} (h : GenC cand H N p l) (hq : (a, b) ∉ cand) (h0 : nxT H N p a b ≠ 0) : GenC (cand ++ [(a, b)]) H N p (l ++ [(a, b, nxT H N p a b)]) := by
  refine ⟨?_, fun x y s => ?_⟩
  · rw [List.map_append, List.nodup_append]
    refine ⟨h.1, by simp, fun u hu v hv e => ?_⟩
    obtain ⟨⟨x, y, s⟩, hx, rfl⟩ := List.mem_map.1 hu
    simp only [List.map_cons, List.map_nil, List.mem_singleton] at hv
    rw [hv] at e
    unfold posD at e
    simp only [Prod.mk.injEq] at e
    obtain ⟨rfl, rfl⟩ := e
    exact hq ((h.2 x y s).1 hx).1
  · rw [List.mem_append, h.2, List.mem_append]
    simp only [List.mem_singleton, Prod.mk.injEq]
    constructor
    · rintro (⟨h1, h2⟩ | ⟨rfl, rfl, rfl⟩)
      · exact ⟨.inl h1, h2⟩
      · exact ⟨.inr ⟨rfl, rfl⟩, rfl, h0⟩
    · rintro ⟨h1 | ⟨rfl, rfl⟩, h2⟩
      · exact .inl ⟨h1, h2⟩
      · exact .inr ⟨rfl, rfl, h2.1⟩
theorem GenC.full (h : GenC (candL H p) H N p l) (hr : trQ st H N = true) (hS : SSC p) : IsGen H N p l := by
  refine ⟨h.1, fun x y s => ?_⟩
  rw [h.2]
  constructor
  · rintro ⟨_, h2⟩; exact h2
  · intro h2; exact ⟨nx_cand hr hS (by rw [← h2.1]; exact h2.2), h2⟩
theorem cand_step {i : Nat} {c : Int × Int × Int} (h : p[i]? = some c) : candL H (p.take (i + 1)) = candL H (p.take i) ++ H.map fun o => (c.1 - o.1, c.2.1 - o.2) := by
  unfold candL
  rw [List.take_add_one, h, List.flatMap_append]
  simp
end
end Go.Proofs.YtfdihjjnlmhibaaGreat
end
section
namespace Go.Proofs.YtfdihjjnlmhibaaGreat
open Go Go.RowKit
def fitE (st : Int) (H : List (Int × Int)) (N : List (Int × List Int)) (p : List (Int × Int × Int)) : Int :=
  if trQ st H N = true then (if rightC p = true then (if p.any (fun c => decide (st ≤ c.2.2)) = true then 10 else 0) else 2) else 11
def itS (H : List (Int × Int)) (N : List (Int × List Int)) (p : List (Int × Int × Int)) : Nat → Int × List (Int × Int × Int)
  | 0 => (0, p)
  | k + 1 => if (itS H N p k).1 = 0 then (stE H N (itS H N p k).2, stL H N (itS H N p k).2) else ((itS H N p k).1, [])
def runE (st : Int) (H : List (Int × Int)) (N : List (Int × List Int)) (p : List (Int × Int × Int)) (n : Int) : Int := if fitE st H N p = 0 then (if n < 0 ∨ 10000 < n then 2 else (itS H N p n.toNat).1) else fitE st H N p
def runL (st : Int) (H : List (Int × Int)) (N : List (Int × List Int)) (p : List (Int × Int × Int)) (n : Int) : List (Int × Int × Int) := if runE st H N p n = 0 then (itS H N p n.toNat).2 else []
def hisL (st : Int) (H : List (Int × Int)) (N : List (Int × List Int)) (p : List (Int × Int × Int)) (n : Int) : List (List (Int × Int × Int)) := if runE st H N p n = 0 then (List.range (n.toNat + 1)).map fun k => (itS H N p k).2 else []
def stpE (st : Int) (H : List (Int × Int)) (N : List (Int × List Int)) (p : List (Int × Int × Int)) : Int := if fitE st H N p = 0 then stE H N p else fitE st H N p
def stpL (st : Int) (H : List (Int × Int)) (N : List (Int × List Int)) (p : List (Int × Int × Int)) : List (Int × Int × Int) := if fitE st H N p = 0 then stL H N p else []
section
variable {st : Int} {H : List (Int × Int)} {N : List (Int × List Int)} {p l a b : List (Int × Int × Int)} {x y s dx dy : Int}
theorem fit_iff : fitE st H N p = 0 ↔ FitsR st H N p := by
  unfold fitE
  constructor
  · intro h
    by_cases h1 : trQ st H N = true
    · rw [if_pos h1] at h
      by_cases h2 : rightC p = true
      · rw [if_pos h2] at h
        by_cases h3 : p.any (fun c => decide (st ≤ c.2.2)) = true
        · rw [if_pos h3] at h; omega
        · refine ⟨h1, h2, fun c hc => ?_⟩
          rcases Int.lt_or_le c.2.2 st with g | g
          · exact g
          · exact absurd (List.any_eq_true.2 ⟨c, hc, decide_eq_true g⟩) h3
      · rw [if_neg h2] at h; omega
    · rw [if_neg h1] at h; omega
  · intro h
    rw [if_pos h.rule, if_pos h.pat, if_neg]
    intro h3
    obtain ⟨c, hc, g⟩ := List.any_eq_true.1 h3
    have := h.top c hc
    have := of_decide_eq_true g
    omega
theorem fit_rule (h : trQ st H N = false) : fitE st H N p = 11 := by unfold fitE; rw [h]; rfl
theorem fit_pat (h : trQ st H N = true) (h2 : rightC p = false) : fitE st H N p = 2 := by unfold fitE; rw [if_pos h, h2]; rfl
theorem fit_top (h : trQ st H N = true) (h2 : rightC p = true) : fitE st H N p = if p.any (fun c => decide (st ≤ c.2.2)) = true then 10 else 0 := by unfold fitE; rw [if_pos h, if_pos h2]
theorem top_fold : ∀ (p : List (Int × Int × Int)) (m : Int), st ≤ p.foldl (fun m c => max m c.2.2) m ↔ st ≤ m ∨ ∃ c ∈ p, st ≤ c.2.2
  | [], m => by simp
  | c :: p, m => by
    rw [List.foldl_cons, top_fold p]
    constructor
    · rintro (h | ⟨d, hd, h⟩)
      · by_cases h1 : st ≤ m
        · exact .inl h1
        · exact .inr ⟨c, by simp, by omega⟩
      · exact .inr ⟨d, by simp [hd], h⟩
    · rintro (h | ⟨d, hd, h⟩)
      · exact .inl (by omega)
      · rcases List.mem_cons.1 hd with rfl | hd
        · exact .inl (by omega)
        · exact .inr ⟨d, hd, h⟩
theorem top_any (h : 0 < st) : p.any (fun c => decide (st ≤ c.2.2)) = decide (st ≤ topC p) := by
  rw [Bool.eq_iff_iff, List.any_eq_true, decide_eq_true_eq]
  unfold topC
  rw [top_fold]
  constructor
  · rintro ⟨c, hc, g⟩; exact .inr ⟨c, hc, of_decide_eq_true g⟩
  · rintro (g | ⟨c, hc, g⟩)
    · omega
    · exact ⟨c, hc, decide_eq_true g⟩
theorem nil_fits (h : trQ st H N = true) : FitsR st H N [] := ⟨h, by decide, fun c hc => by cases hc⟩
theorem it_fits (hf : FitsR st H N p) : ∀ k, FitsR st H N (itS H N p k).2
  | 0 => hf
  | k + 1 => by
    unfold itS
    split
    · exact st_fits (it_fits hf k)
    · exact nil_fits hf.rule
theorem it_step {k : Nat} (h : (itS H N p k).1 = 0) : itS H N p (k + 1) = (stE H N (itS H N p k).2, stL H N (itS H N p k).2) := by
  show (if _ then _ else _) = _
  rw [if_pos h]
theorem it_stuck {k : Nat} {e : Int} (h : (itS H N p k).1 = e) (he : e ≠ 0) : ∀ j, (itS H N p (k + j)).1 = e
  | 0 => h
  | j + 1 => by
    have ih := it_stuck h he j
    show (itS H N p (k + j + 1)).1 = e
    unfold itS
    rw [if_neg (by rw [ih]; exact he)]
    exact ih
end
end Go.Proofs.YtfdihjjnlmhibaaGreat
end
section
namespace Go.Proofs.YtfdihjjnlmhibaaGreat
open Go Go.RowKit
section
variable {α β : Type}
theorem find_at {p : Nat → Bool} : ∀ {n j : Nat}, j < n → (∀ i, i < j → p i = false) → p j = true → (List.range n).find? p = some j
  | 0, j, h, _, _ => by omega
  | n + 1, j, h, hb, hj => by
    rw [List.range_succ, List.find?_append]
    by_cases e : j = n
    · subst e
      rw [List.find?_eq_none.2 (fun x hx => by rw [hb x (List.mem_range.1 hx)]; simp)]
      simp [List.find?_cons, hj]
    · rw [find_at (by omega) hb hj]; rfl
theorem find_no {p : Nat → Bool} {n : Nat} (h : ∀ i, i < n → p i = false) : (List.range n).find? p = none :=
  List.find?_eq_none.2 fun x hx => by rw [h x (List.mem_range.1 hx)]; simp
theorem fsome_at {f : Nat → Option β} {b : β} : ∀ {n j : Nat}, j < n → (∀ i, i < j → f i = none) → f j = some b → (List.range n).findSome? f = some b
  | 0, j, h, _, _ => by omega
  | n + 1, j, h, hb, hj => by
    rw [List.range_succ, List.findSome?_append]
    by_cases e : j = n
    · subst e
      rw [List.findSome?_eq_none_iff.2 (fun x hx => hb x (List.mem_range.1 hx))]
      simp [List.findSome?_cons, hj]
    · rw [fsome_at (by omega) hb hj]; rfl
theorem fsome_no {f : Nat → Option β} {n : Nat} (h : ∀ i, i < n → f i = none) : (List.range n).findSome? f = none :=
  List.findSome?_eq_none_iff.2 fun x hx => h x (List.mem_range.1 hx)
end
def atE (key : Int) (fs : List TFr) (k : Int) : Int := if tlB key fs = true then (if 0 ≤ k ∧ k < (fs.length : Int) then 0 else 13) else 2
def atL (key : Int) (fs : List TFr) (k : Int) : List Cel := if atE key fs k = 0 then (tlP key fs).getD k.toNat [] else []
def adE (key : Int) (fs : List TFr) (gen : Int) (p : List Cel) : Int :=
  if tlB key fs = true ∧ rightC p = true ∧ 0 ≤ gen ∧ gen ≤ 2147483647 then (if 0 < fs.length ∧ gen ≤ lastG fs fs.length then 9 else if 1000 ≤ fs.length then 6 else 0) else 2
def adL (key : Int) (fs : List TFr) (gen : Int) (p : List Cel) : List TFr := if adE key fs gen p = 0 then bldL key.toNat (gnL fs ++ [gen]) (tlP key fs ++ [p]) (fs.length + 1) else []
def cuE (key : Int) (fs : List TFr) (a b : Int) : Int := if tlB key fs = true then (if 0 ≤ a ∧ a ≤ b ∧ b < (fs.length : Int) then 0 else 13) else 2
def cuL (key : Int) (fs : List TFr) (a b : Int) : List TFr := if cuE key fs a b = 0 then bldL key.toNat (((gnL fs).take (b.toNat + 1)).drop a.toNat) (((tlP key fs).take (b.toNat + 1)).drop a.toNat) (b.toNat + 1 - a.toNat) else []
def dfB (ga gb : List Int) (la lb : List (List Cel)) (i : Nat) : Bool := decide (la.length ≤ i ∨ lb.length ≤ i) || decide (ga.getD i 0 ≠ gb.getD i 0) || !sameL (la.getD i []) (lb.getD i [])
def dfO (ga gb : List Int) (la lb : List (List Cel)) : Option Nat := (List.range (max la.length lb.length)).find? (dfB ga gb la lb)
def dfR (ga gb : List Int) (la lb : List (List Cel)) : Int × List Chg × Bool := match dfO ga gb la lb with
  | none => (0, [], false)
  | some i => (i, if la.length ≤ i ∨ lb.length ≤ i then [] else ofL (la.getD i []) (lb.getD i []), true)
def dfE (ka : Int) (a : List TFr) (kb : Int) (b : List TFr) : Int := if tlB ka a = true ∧ tlB kb b = true then 0 else 2
def dfL (ka : Int) (a : List TFr) (kb : Int) (b : List TFr) : Int × List Chg × Bool := if dfE ka a kb b = 0 then dfR (gnL a) (gnL b) (tlP ka a) (tlP kb b) else (0, [], false)
section
variable {st key g gen k : Int} {K j n m : Nat} {fs : List TFr} {p : List Cel} {H : List (Int × Int)} {N : List (Int × List Int)}
theorem tlP_eq (h : tlB key fs = true) : tlP key fs = patL fs fs.length := by unfold tlP; rw [if_pos h]
theorem tlP_len (h : tlB key fs = true) : (tlP key fs).length = fs.length := by rw [tlP_eq h, pat_len _ (Nat.le_refl _)]
theorem tlP_right (h : tlB key fs = true) : ∀ p ∈ tlP key fs, rightC p = true := by
  obtain ⟨K, hK, h1, h2, h3, h4⟩ := tlB_ok h
  rw [tlP_eq h]
  exact pat_right h4 _ (Nat.le_refl _)
theorem tl_bld (h : tlB key fs = true) : bldL key.toNat (gnL fs) (tlP key fs) fs.length = fs := by
  obtain ⟨K, rfl, h1, h2, h3, h4⟩ := tlB_ok h
  rw [tlP_eq h, Int.toNat_natCast]
  exact bld_of h1 h4
theorem gn_len : (gnL fs).length = fs.length := by unfold gnL; rw [List.length_map]
theorem ad_ok (h : adE key fs gen p = 0) : tlB key fs = true ∧ rightC p = true ∧ (0 ≤ gen ∧ gen ≤ 2147483647) ∧ (0 < fs.length → lastG fs fs.length < gen) ∧ fs.length < 1000 := by
  unfold adE at h
  split at h
  · rename_i h0
    split at h
    · omega
    · split at h
      · omega
      · exact ⟨h0.1, h0.2.1, h0.2.2, by omega, by omega⟩
  · omega
theorem getD_left {α : Type} {l m : List α} {d : α} {i : Nat} (h : i < l.length) : (l ++ m).getD i d = l.getD i d := by
  rw [List.getD_eq_getElem?_getD, List.getElem?_append_left h, ← List.getD_eq_getElem?_getD]
theorem getD_here {α : Type} {l : List α} {x d : α} {i : Nat} (h : i = l.length) : (l ++ [x]).getD i d = x := by
  rw [List.getD_eq_getElem?_getD, List.getElem?_append_right (by omega), h, Nat.sub_self]; rfl
theorem ad_snoc (h : adE key fs gen p = 0) : adL key fs gen p = fs ++ [bldF key.toNat (gnL fs ++ [gen]) (tlP key fs ++ [p]) fs.length] := by
  have h1 := (ad_ok h).1
  unfold adL
  rw [if_pos h, bld_snoc gn_len (tlP_len h1), tl_bld h1]
end
def foS (st : Int) (H : List (Int × Int)) (N : List (Int × List Int)) (gs : List Int) (l : List (List Cel)) (i : Nat) : Option (Int × Int) :=
  if i = 0 then none else if 10000 < gs.getD i 0 - gs.getD (i - 1) 0 then some (0, 14)
  else if runE st H N (l.getD (i - 1) []) (gs.getD i 0 - gs.getD (i - 1) 0) = 0 then (if sameL (runL st H N (l.getD (i - 1) []) (gs.getD i 0 - gs.getD (i - 1) 0)) (l.getD i []) = true then none else some ((i : Int), 0))
  else some (0, runE st H N (l.getD (i - 1) []) (gs.getD i 0 - gs.getD (i - 1) 0))
def foR (st : Int) (H : List (Int × Int)) (N : List (Int × List Int)) (gs : List Int) (l : List (List Cel)) : Int × Int := ((List.range l.length).findSome? (foS st H N gs l)).getD (-1, 0)
def foT (st : Int) (l : List (List Cel)) : Bool := l.any fun p => decide (st ≤ topC p)
def foL (st : Int) (H : List (Int × Int)) (N : List (Int × List Int)) (key : Int) (fs : List TFr) : Int × Int :=
  if trQ st H N = true then (if tlB key fs = true then (if foT st (tlP key fs) = true then (0, 10) else foR st H N (gnL fs) (tlP key fs)) else (0, 2)) else (0, 11)
def rcE (st : Int) (H : List (Int × Int)) (N : List (Int × List Int)) (p : List Cel) (n key : Int) : Int :=
  if runE st H N p 0 = 0 then (if n < 0 ∨ 10000 < n ∨ key < 1 ∨ 100 < key then 2 else if 1000 ≤ n then 6 else runE st H N p n) else runE st H N p 0
def nnL (n : Nat) : List Int := (List.range n).map fun i : Nat => (i : Int)
def rcL (st : Int) (H : List (Int × Int)) (N : List (Int × List Int)) (p : List Cel) (n key : Int) : List TFr :=
  if rcE st H N p n key = 0 then bldL key.toNat (nnL (n.toNat + 1)) (hisL st H N p n) (n.toNat + 1) else []
section
variable {st key : Int} {n k : Nat} {p : List Cel} {H : List (Int × Int)} {N : List (Int × List Int)}
theorem run0 : runE st H N p 0 = fitE st H N p := by
  unfold runE
  by_cases h : fitE st H N p = 0
  · rw [if_pos h, if_neg (by omega), h]; rfl
  · rw [if_neg h]
theorem nn_get {i : Nat} (h : i < n) : (nnL n).getD i 0 = (i : Int) := getD_of (by unfold nnL; rw [List.getElem?_map, List.getElem?_range h]; rfl)
theorem his_get {i : Nat} (h : runE st H N p n = 0) (hi : i ≤ n) : (hisL st H N p n)[i]? = some (itS H N p i).2 := by
  unfold hisL
  rw [if_pos h, Int.toNat_natCast, List.getElem?_map, List.getElem?_range (by omega)]; rfl
theorem his_len' (h : runE st H N p n = 0) : (hisL st H N p n).length = n + 1 := by
  unfold hisL; rw [if_pos h, Int.toNat_natCast]; simp
end
end Go.Proofs.YtfdihjjnlmhibaaGreat
end
section
namespace Go.Proofs.YtfdihjjnlmhibaaGreat
open Go Go.RowKit
theorem hood_in {H : List (Int × Int)} (h : rightL H = true) : H.length ≤ 25 ∧ ∀ o ∈ H, (-2 ≤ o.1 ∧ o.1 ≤ 2) ∧ -2 ≤ o.2 ∧ o.2 ≤ 2 := by
  unfold rightL at h
  rw [Bool.and_eq_true, decide_eq_true_eq, List.all_eq_true] at h
  refine ⟨h.1.2, fun o ho => ?_⟩
  obtain ⟨i, hi, rfl⟩ := List.getElem_of_mem ho
  have h1 := h.2 i (by simpa using hi)
  unfold okAt at h1
  rw [List.getElem?_eq_getElem hi] at h1
  unfold inR at h1
  simp only [Bool.and_eq_true, decide_eq_true_eq] at h1
  exact ⟨h1.1.1, h1.1.2⟩
section
variable {st : Int} {H : List (Int × Int)} {N : List (Int × List Int)} {p a b all : List (Int × Int × Int)} {x y : Int}
end
end Go.Proofs.YtfdihjjnlmhibaaGreat
end
section
namespace Go.Proofs.YtfdihjjnlmhibaaGreat
open Go Go.RowKit
/-- A rectangle of positions, row by row. -/
def rowL (X y : Int) (W : Nat) : List (Int × Int) := (List.range W).map fun i => (X + (i : Nat), y)
def rectL (X Y : Int) (W h : Nat) : List (Int × Int) := (List.range h).flatMap fun j => rowL X (Y + (j : Nat)) W
theorem row_step (X y : Int) (W : Nat) : rowL X y (W + 1) = rowL X y W ++ [(X + (W : Nat), y)] := by
  unfold rowL; rw [List.range_succ, List.map_append]; rfl
theorem rect_step (X Y : Int) (W h : Nat) : rectL X Y W (h + 1) = rectL X Y W h ++ rowL X (Y + (h : Nat)) W := by
  unfold rectL; rw [List.range_succ, List.flatMap_append]; simp
theorem mem_row {X y : Int} {W : Nat} {q : Int × Int} : q ∈ rowL X y W ↔ (X ≤ q.1 ∧ q.1 < X + W) ∧ q.2 = y := by
  unfold rowL
  rw [List.mem_map]
  constructor
  · rintro ⟨i, hi, rfl⟩
    have : i < W := by simpa using hi
    exact ⟨⟨by simp only; omega, by simp only; omega⟩, rfl⟩
  · rintro ⟨⟨h1, h2⟩, h3⟩
    refine ⟨(q.1 - X).toNat, by simp; omega, ?_⟩
    exact Prod.ext (by simp only; omega) h3.symm
theorem mem_rect {X Y : Int} {W : Nat} {q : Int × Int} : ∀ {h : Nat}, q ∈ rectL X Y W h ↔ (X ≤ q.1 ∧ q.1 < X + W) ∧ Y ≤ q.2 ∧ q.2 < Y + h
  | 0 => by
    unfold rectL
    simp
    try (intros; omega)
  | h + 1 => by
    rw [rect_step, List.mem_append, mem_rect (h := h), mem_row]
    constructor
    · rintro (⟨h1, h2, h3⟩ | ⟨h1, h2⟩)
      · exact ⟨h1, h2, by omega⟩
      · exact ⟨h1, by omega, by omega⟩
    · rintro ⟨h1, h2, h3⟩
      by_cases hq : q.2 < Y + h
      · exact .inl ⟨h1, h2, hq⟩
      · exact .inr ⟨h1, by omega⟩
theorem row_nodup (X y : Int) : ∀ W : Nat, (rowL X y W).Nodup
  | 0 => by unfold rowL; simp
  | W + 1 => by
    rw [row_step, List.nodup_append]
    refine ⟨row_nodup X y W, by simp, fun u hu v hv e => ?_⟩
    rw [List.mem_singleton] at hv
    subst hv
    have := (mem_row.1 hu).1.2
    rw [e] at this
    simp only at this
    omega
theorem rect_nodup (X Y : Int) (W : Nat) : ∀ h : Nat, (rectL X Y W h).Nodup
  | 0 => by unfold rectL; simp
  | h + 1 => by
    rw [rect_step, List.nodup_append]
    refine ⟨rect_nodup X Y W h, row_nodup _ _ _, fun u hu v hv e => ?_⟩
    have h1 := (mem_rect.1 hu).2.2
    have h2 := (mem_row.1 hv).2
    rw [e] at h1
    omega
theorem row_len (X y : Int) (W : Nat) : (rowL X y W).length = W := by unfold rowL; simp
theorem rect_len (X Y : Int) (W : Nat) : ∀ h : Nat, (rectL X Y W h).length = h * W
  | 0 => by unfold rectL; simp
  | h + 1 => by rw [rect_step, List.length_append, rect_len X Y W h, row_len, Nat.add_mul]; omega
/-- A position is at most 2 from one of the cells. -/
def nearC (p : List (Int × Int × Int)) (q : Int × Int) : Bool := p.any fun c => decide (q.1 - c.1 ≤ 2 ∧ c.1 - q.1 ≤ 2 ∧ q.2 - c.2.1 ≤ 2 ∧ c.2.1 - q.2 ≤ 2)
def newC (p : List (Int × Int × Int)) (k : Nat) (l : List (Int × Int)) : List (Int × Int) := l.filter fun q => !nearC (p.take k) q
/-- The positions around the first k cells, each once. -/
def arN (p : List (Int × Int × Int)) : Nat → List (Int × Int)
  | 0 => []
  | k + 1 => arN p k ++ (match p[k]? with | some c => newC p k (rectL (c.1 - 2) (c.2.1 - 2) 5 5) | none => [])
theorem arN_step {p : List (Int × Int × Int)} {k : Nat} {c : Int × Int × Int} (h : p[k]? = some c) : arN p (k + 1) = arN p k ++ newC p k (rectL (c.1 - 2) (c.2.1 - 2) 5 5) := by
  show _ ++ (match p[k]? with | some c => _ | none => _) = _
  rw [h]
theorem newC_step {p : List (Int × Int × Int)} {k : Nat} {l : List (Int × Int)} {q : Int × Int} : newC p k (l ++ [q]) = newC p k l ++ if nearC (p.take k) q = true then [] else [q] := by
  unfold newC
  rw [List.filter_append]
  congr 1
  by_cases h : nearC (p.take k) q = true
  · rw [if_pos h]; simp [h]
  · rw [if_neg h]; simp [h]
theorem near_step {p : List (Int × Int × Int)} {k : Nat} {c : Int × Int × Int} (h : p[k]? = some c) (q : Int × Int) : nearC (p.take (k + 1)) q = (nearC (p.take k) q || decide (q.1 - c.1 ≤ 2 ∧ c.1 - q.1 ≤ 2 ∧ q.2 - c.2.1 ≤ 2 ∧ c.2.1 - q.2 ≤ 2)) := by
  unfold nearC
  rw [List.take_add_one, h, List.any_append]
  simp
theorem arN_mem {p : List (Int × Int × Int)} {q : Int × Int} : ∀ k, k ≤ p.length → (q ∈ arN p k ↔ nearC (p.take k) q = true)
  | 0, _ => by unfold arN nearC; simp
  | k + 1, hk => by
    have h : p[k]? = some p[k] := List.getElem?_eq_getElem (by omega)
    rw [arN_step h, List.mem_append, arN_mem k (by omega), near_step h, Bool.or_eq_true, decide_eq_true_eq]
    unfold newC
    rw [List.mem_filter, mem_rect]
    constructor
    · rintro (g | ⟨g, _⟩)
      · exact .inl g
      · exact .inr (by omega)
    · rintro (g | g)
      · exact .inl g
      · by_cases hn : nearC (p.take k) q = true
        · exact .inl hn
        · exact .inr ⟨by omega, by simp [hn]⟩
theorem arN_nodup {p : List (Int × Int × Int)} : ∀ k, k ≤ p.length → (arN p k).Nodup
  | 0, _ => List.nodup_nil
  | k + 1, hk => by
    have h : p[k]? = some p[k] := List.getElem?_eq_getElem (by omega)
    rw [arN_step h, List.nodup_append]
    refine ⟨arN_nodup k (by omega), (rect_nodup _ _ _ _).filter _, fun u hu v hv e => ?_⟩
    subst e
    have h1 := (arN_mem k (by omega)).1 hu
    have h2 := (List.mem_filter.1 hv).2
    rw [h1] at h2
    cases h2
theorem arN_len {p : List (Int × Int × Int)} : ∀ k, (arN p k).length ≤ k * 25
  | 0 => by unfold arN; simp
  | k + 1 => by
    have ih := arN_len (p := p) k
    unfold arN
    rw [List.length_append]
    split
    · rename_i c _
      have h1 : (newC p k (rectL (c.1 - 2) (c.2.1 - 2) 5 5)).length ≤ 25 := by
        unfold newC
        refine Nat.le_trans (List.length_filter_le _ _) ?_
        rw [rect_len]; omega
      omega
    · simp; omega
section
variable {st : Int} {H : List (Int × Int)} {N : List (Int × List Int)} {p l : List (Int × Int × Int)} {all : List (Int × Int)}
/-- Cells found among positions that include all that count. -/
theorem GenC.whole (h : GenC all H N p l) (hc : ∀ x y, nxT H N p x y ≠ 0 → (x, y) ∈ all) : IsGen H N p l := by
  refine ⟨h.1, fun x y s => ?_⟩
  rw [h.2]
  constructor
  · rintro ⟨_, h2⟩; exact h2
  · intro h2; exact ⟨hc x y (by rw [← h2.1]; exact h2.2), h2⟩
theorem ar_covers (hq : trQ st H N = true) (hS : SSC p) {x y : Int} (hn : nxT H N p x y ≠ 0) : (x, y) ∈ arN p p.length := by
  rw [arN_mem p.length (Nat.le_refl _), List.take_length]
  obtain ⟨o, ho, s, hs⟩ := nx_cell hq hS hn
  have g := (hood_in (trR_parts (trQ_parts hq).1).2.1).2 o ho
  unfold nearC
  refine List.any_eq_true.2 ⟨_, hs, decide_eq_true ?_⟩
  simp only
  omega
theorem rect_covers (hq : trQ st H N = true) (hS : SSC p) {X Y : Int} {W h : Nat} (hb : ∀ c ∈ p, (X ≤ c.1 ∧ c.1 < X + W) ∧ Y ≤ c.2.1 ∧ c.2.1 < Y + h) {x y : Int} (hn : nxT H N p x y ≠ 0) : (x, y) ∈ rectL (X - 2) (Y - 2) (W + 4) (h + 4) := by
  obtain ⟨o, ho, s, hs⟩ := nx_cell hq hS hn
  have g := (hood_in (trR_parts (trQ_parts hq).1).2.1).2 o ho
  have k := hb _ hs
  simp only at k
  rw [mem_rect]
  simp only
  omega
theorem take_new {i : Nat} {q : Int × Int} (hn : all.Nodup) (h : all[i]? = some q) : q ∉ all.take i := by
  intro hm
  obtain ⟨j, hj, e⟩ := List.getElem_of_mem hm
  have hji : j < i := by rw [List.length_take] at hj; omega
  have hjl : j < all.length := by rw [List.length_take] at hj; omega
  obtain ⟨hi, e2⟩ := List.getElem?_eq_some_iff.1 h
  rw [List.getElem_take] at e
  have := (List.pairwise_iff_getElem.1 hn) j i hjl hi hji
  exact this (e.trans e2.symm)
end
end Go.Proofs.YtfdihjjnlmhibaaGreat
end
section
namespace Go.Proofs.YtfdihjjnlmhibaaGreat
open Go Go.RowKit
def puF (f : Int → Int → Option Int) (x y v : Int) : Int → Int → Option Int := fun a b => if a = x ∧ b = y then some v else f a b
def ofF (p : List (Int × Int × Int)) : Int → Int → Option Int := p.foldl (fun f c => puF f c.1 c.2.1 c.2.2) (fun _ _ => none)
def getO : List (Int × Int × Int) → Int → Int → Option Int
  | [], _, _ => none
  | c :: l, x, y => if c.1 = x ∧ c.2.1 = y then some c.2.2 else getO l x y
theorem getO_none : ∀ {l : List (Int × Int × Int)} {x y : Int}, (x, y) ∉ l.map posD → getO l x y = none
  | [], _, _, _ => rfl
  | c :: l, x, y, h => by
    show (if c.1 = x ∧ c.2.1 = y then some c.2.2 else getO l x y) = none
    rw [if_neg, getO_none (l := l)]
    · intro hm; exact h (List.mem_cons_of_mem _ hm)
    · rintro ⟨rfl, rfl⟩
      exact h (by rw [List.map_cons]; exact List.mem_cons_self ..)
theorem getO_get : ∀ (l : List (Int × Int × Int)) (x y : Int), (getO l x y).getD 0 = getC l x y
  | [], _, _ => rfl
  | c :: l, x, y => by
    unfold getO getC
    by_cases h : c.1 = x ∧ c.2.1 = y
    · rw [if_pos h, if_pos h]; rfl
    · rw [if_neg h, if_neg h]; exact getO_get l x y
theorem of_fold : ∀ (p : List (Int × Int × Int)) (f : Int → Int → Option Int), (p.map posD).Nodup → ∀ x y, (p.foldl (fun f c => puF f c.1 c.2.1 c.2.2) f) x y = (getO p x y).or (f x y)
  | [], f, _, x, y => by simp [getO]
  | c :: p, f, h, x, y => by
    rw [List.map_cons, List.nodup_cons] at h
    rw [List.foldl_cons, of_fold p _ h.2 x y]
    show _ = (if c.1 = x ∧ c.2.1 = y then some c.2.2 else getO p x y).or _
    by_cases e : c.1 = x ∧ c.2.1 = y
    · obtain ⟨rfl, rfl⟩ := e
      rw [if_pos ⟨rfl, rfl⟩, getO_none (l := p) h.1]
      unfold puF
      simp
    · rw [if_neg e]
      unfold puF
      rw [if_neg (fun h => e ⟨h.1.symm, h.2.symm⟩)]
theorem of_get {p : List (Int × Int × Int)} (h : SSC p) (x y : Int) : (ofF p x y).getD 0 = getC p x y := by
  unfold ofF
  rw [of_fold p _ (ssc_iff.1 h).2 x y, ← getO_get]
  cases getO p x y <;> rfl
theorem of_step {p : List (Int × Int × Int)} {j : Nat} {c : Int × Int × Int} (h : p[j]? = some c) : ofF (p.take (j + 1)) = puF (ofF (p.take j)) c.1 c.2.1 c.2.2 := by
  unfold ofF
  rw [List.take_add_one, h, List.foldl_append]; rfl
theorem of_all {p : List (Int × Int × Int)} {n : Nat} (h : p.length = n) : ofF (p.take n) = ofF p := by
  rw [List.take_of_length_le (by omega)]
/-- The states that a neighbourhood reads. -/
def nbS (H : List (Int × Int)) (p : List (Int × Int × Int)) (x y : Int) : List Int := H.map fun o => getC p (x + o.1) (y + o.2)
theorem nbS_len {H : List (Int × Int)} {p : List (Int × Int × Int)} {x y : Int} : (nbS H p x y).length = H.length := by simp [nbS]
theorem nbS_at {H : List (Int × Int)} {p : List (Int × Int × Int)} {x y : Int} {j : Nat} {o : Int × Int} (h : H[j]? = some o) : (nbS H p x y)[j]? = some (getC p (x + o.1) (y + o.2)) := by
  unfold nbS; rw [List.getElem?_map, h]; rfl
theorem nbS_ok {st : Int} {H : List (Int × Int)} {N : List (Int × List Int)} {p : List (Int × Int × Int)} (hf : FitsR st H N p) (x y : Int) : ∀ s ∈ nbS H p x y, 0 ≤ s ∧ s < st := by
  intro s hs
  obtain ⟨o, _, rfl⟩ := List.mem_map.1 hs
  exact hf.get _ _
theorem nxT_ins {H : List (Int × Int)} {N : List (Int × List Int)} {p : List (Int × Int × Int)} {x y : Int} : nxT H N p x y = valT N (nbS H p x y) := rfl
end Go.Proofs.YtfdihjjnlmhibaaGreat
end
section
namespace Go.Proofs.YtfdihjjnlmhibaaGreat
open Go Go.RowKit
def cm (a b : Nat) : Nat := (comp a b).toNat
def iv (a : Nat) : Nat := (inv a).toNat
structure Over (l : List Int) (T : Nat → Bool) : Prop where
  zero : T 0 = true
  base : ∀ m, m ∈ l → T (r8 m) = true
  closed : ∀ a b, a < 8 → b < 8 → T a = true → T b = true → T (cm a b) = true
def Must (l : List Int) (k : Nat) : Prop := ∀ T, Over l T → T k = true
open Classical in
noncomputable def grpB (l : List Int) (k : Nat) : Bool := decide (Must l k)
noncomputable def grp (l : List Int) : List Int := ((List.range 8).filter (grpB l)).map fun k => ((k : Nat) : Int)
theorem must_zero (l : List Int) : Must l 0 := fun _ h => h.zero
end Go.Proofs.YtfdihjjnlmhibaaGreat
end
