/- Plain arithmetic of the eight symmetries: no program in sight. Plain facts on lists: membership and equality as the programs test them. Lists of positions: the first index of one. Valid neighbourhoods: plain facts. Plain arithmetic on positions and boxes: no program in sight. Plain facts on boxes: meet, join, grow, around, the positions of a box. No program in sight. Plain facts on patterns: lists of cells. No program in sight. Plain facts on building patterns out of cells in any order. No program in sight. Plain laws on patterns: moving back, states after setting and building, the order. No program in sight. Plain: lists of changes of patterns. No program in sight. Plain: laws of changes: what is applied, back and forth. No program in sight. Plain: timelines. A frame is a generation, whether it is whole, its cells, its changes. No program in sight. Plain facts on merging patterns. No program in sight. Plain facts on boxes: positions of Meet and of Join; Grow there and back; the box around a box's positions. Plain facts on the algebra of patterns: what its functions and their references compute, and its laws. No program in sight. Plain facts on connected parts of a list of cells. No program in sight. Plain: valid rule trees and what they answer. No program in sight. Plain: the next generation of a pattern under a quiet rule. No program in sight. Plain: errors, runs, moves, and patterns far apart under a quiet rule. No program in sight. Plain: what the calls on timelines answer, and their laws. No program in sight. Plain: patterns far apart evolve each for itself. No program in sight. Plain: the positions that the reference of a generation examines. No program in sight. Plain: a pattern as a function of the position, as a map is filled with it. No program in sight. Plain facts on the group of the eight symmetries: no program in sight. Plain facts: the inverse leads back; two applications are one. Plain facts on cutting, turning and moving patterns home. No program in sight. -/
import Derived.WalkKit
import Derived.Laws.BitsLemmas
set_option linter.unusedSimpArgs false
set_option linter.unusedVariables false
section
namespace Go.Proofs.YtellglbmbocgkaaGreatDoor
open Go Go.RowKit

theorem i64_and7 (n : Int) : bits .and .i64 n 7 = n % 8 := by
  have h7 : (BitVec.ofInt 64 7).toNat = 2 ^ 3 - 1 := by decide
  have key : (BitVec.ofInt 64 n &&& BitVec.ofInt 64 7).toNat = (n % ((2 ^ 64 : Nat) : Int)).toNat % 2 ^ 3 := by
    rw [BitVec.toNat_and, BitVec.toNat_ofInt, h7, Nat.and_two_pow_sub_one_eq_mod]
  show IntKind.i64.wrap ((BitVec.ofInt 64 n &&& BitVec.ofInt 64 7).toNat : Nat) = n % 8
  rw [key, IntKind.wrap_i64]
  omega

def firstAt (p : Nat → Bool) : Nat → Int
  | 0 => -1
  | n + 1 => match firstAt p n with
    | -1 => if p n then n else -1
    | r => r
theorem firstAt_none {p : Nat → Bool} : ∀ {n : Nat}, (∀ i, i < n → p i = false) → firstAt p n = -1
  | 0, _ => rfl
  | n + 1, h => by
    have h1 := firstAt_none (p := p) (n := n) (fun i hi => h i (by omega))
    simp [firstAt, h1, h n (by omega)]
theorem firstAt_nonneg {p : Nat → Bool} {i : Nat} (hi : p i = true) (hj : ∀ j, j < i → p j = false) : ∀ {n : Nat}, i < n → firstAt p n = (i : Int)
  | 0, h => absurd h (by omega)
  | n + 1, h => by
    by_cases e : i = n
    · subst e
      have h1 := firstAt_none (p := p) (n := i) hj
      simp [firstAt, h1, hi]
    · have h1 := firstAt_nonneg hi hj (n := n) (by omega)
      simp only [firstAt, h1]
      split
      · rename_i h2; omega
      · rename_i h2; rfl
theorem firstAt_congr {p q : Nat → Bool} : ∀ {n : Nat}, (∀ i, i < n → p i = q i) → firstAt p n = firstAt q n
  | 0, _ => rfl
  | n + 1, h => by
    simp only [firstAt]
    rw [firstAt_congr (p := p) (q := q) (n := n) (fun i hi => h i (by omega)), h n (by omega)]

def mat (r j : Nat) : Int := [1, 0, 0, 1, 0, -1, 1, 0, -1, 0, 0, -1, 0, 1, -1, 0, -1, 0, 0, 1, 0, -1, -1, 0, 1, 0, 0, -1, 0, 1, 1, 0].getD (r * 4 + j) 0
def r8 (k : Int) : Nat := (k % 8).toNat
theorem r8_lt (k : Int) : r8 k < 8 := by unfold r8; omega
theorem r8_cast (k : Int) : ((r8 k : Nat) : Int) = k % 8 := by unfold r8; omega
def app (k x y : Int) : Int × Int :=
  (wrap64 (wrap64 (mat (r8 k) 0 * x) + wrap64 (mat (r8 k) 1 * y)), wrap64 (wrap64 (mat (r8 k) 2 * x) + wrap64 (mat (r8 k) 3 * y)))
def matP (a b c d : Int) (r : Nat) : Bool := decide (mat r 0 = a ∧ mat r 1 = b ∧ mat r 2 = c ∧ mat r 3 = d)
def matIx (a b c d : Int) : Int := firstAt (matP a b c d) 8
theorem first_step {p : Nat → Bool} {j : Nat} (h : ∀ r, r < j → p r = false) (hj : p j = false) : ∀ r, r < j + 1 → p r = false := by
  intro r hr
  by_cases e : r = j
  · rw [e]; exact hj
  · exact h r (by omega)
def comp (a b : Int) : Int :=
  let x := app b (app a 1 0).1 (app a 1 0).2
  let y := app b (app a 0 1).1 (app a 0 1).2
  matIx x.1 y.1 x.2 y.2
def invP (k : Int) (i : Nat) : Bool := decide (comp k i = 0)
def orZero (r : Int) : Int := if r = -1 then 0 else r
def inv (k : Int) : Int := orZero (firstAt (invP k) 8)

def quart : Nat → Int × Int → Int × Int
  | 0, p => p
  | n + 1, p => (wrap64 (-(quart n p).2), (quart n p).1)
def rapp (k x y : Int) : Int × Int := if 4 ≤ k % 8 then quart (k % 8 - 4).toNat (wrap64 (-x), y) else quart (k % 8).toNat (x, y)
def rfindP (x y : Int) (k : Nat) : Bool := decide ((rapp k 1 2).1 = x ∧ (rapp k 1 2).2 = y)
def rfind (x y : Int) : Int := orZero (firstAt (rfindP x y) 8)
def rcomp (a b : Int) : Int := let p := rapp a 1 2; let q := rapp b p.1 p.2; rfind q.1 q.2
def rinvP (k : Int) (i : Nat) : Bool := decide (rcomp k i = 0)
def rinv (k : Int) : Int := orZero (firstAt (rinvP k) 8)
def I64 (n : Int) : Prop := -9223372036854775808 ≤ n ∧ n ≤ 9223372036854775807
theorem app_mod (k x y : Int) : app k x y = app (k % 8) x y := by unfold app r8; rw [Int.emod_emod_of_dvd _ (by decide)]
end Go.Proofs.YtellglbmbocgkaaGreatDoor
end
section
namespace Go.Proofs.YtellglbmbocgkaaGreatDoor
open Go Go.RowKit
def sameL {α : Type} [DecidableEq α] (a b : List α) : Bool := decide (a = b)
theorem sameL_len {α : Type} [DecidableEq α] {a b : List α} {n m : Nat} (ha : a.length = n) (hb : b.length = m) (h : n ≠ m) : sameL a b = false :=
  decide_eq_false fun e => h (by rw [← ha, ← hb, e])
theorem sameL_ne {α : Type} [DecidableEq α] {a b : List α} {j : Nat} {x y : α} (hx : a[j]? = some x) (hy : b[j]? = some y) (h : x ≠ y) : sameL a b = false :=
  decide_eq_false fun e => h (by rw [e, hy] at hx; exact (Option.some.inj hx).symm)
theorem sameL_all {α : Type} [DecidableEq α] {a b : List α} {n : Nat} (ha : a.length = n) (hb : b.length = n) (h : ∀ i, i < n → a[i]? = b[i]?) : sameL a b = true :=
  decide_eq_true (List.ext_getElem? fun i => by
    by_cases hi : i < n
    · exact h i hi
    · rw [List.getElem?_eq_none (by omega), List.getElem?_eq_none (by omega)])
theorem same_step {α : Type} {a b : List α} {j : Nat} (h : ∀ i, i < j → a[i]? = b[i]?) (hj : a[j]? = b[j]?) : ∀ i, i < j + 1 → a[i]? = b[i]? := by
  intro i hi
  by_cases e : i = j
  · rw [e]; exact hj
  · exact h i (by omega)
end Go.Proofs.YtellglbmbocgkaaGreatDoor
end
section
namespace Go.Proofs.YtellglbmbocgkaaGreatDoor
open Go Go.RowKit
def isAt (l : List (Int × Int)) (x y : Int) (i : Nat) : Bool := decide (l[i]? = some (x, y))
def idxP (l : List (Int × Int)) (x y : Int) : Int := firstAt (isAt l x y) l.length
theorem isAt_no {l : List (Int × Int)} {x y a b : Int} {i : Nat} (h : l[i]? = some (a, b)) (hne : ¬a = x ∨ ¬b = y) : isAt l x y i = false := by
  unfold isAt; rw [h]; simp; intro h1; rcases hne with h2 | h2
  · exact absurd h1 h2
  · exact h2
theorem isAt_yes {l : List (Int × Int)} {x y : Int} {i : Nat} (h : l[i]? = some (x, y)) : isAt l x y i = true := by
  unfold isAt; rw [h]; simp
theorem idxP_found {l : List (Int × Int)} {n : Nat} {x y : Int} {i : Nat} (hl : l.length = n) (hi : i < n) (h : l[i]? = some (x, y)) (hno : ∀ r, r < i → isAt l x y r = false) : (i : Int) = idxP l x y := by
  unfold idxP; rw [hl]; exact (firstAt_nonneg (isAt_yes h) hno hi).symm
theorem idxP_none {l : List (Int × Int)} {n : Nat} {x y : Int} (hl : l.length = n) (hno : ∀ r, r < n → isAt l x y r = false) : (-1 : Int) = idxP l x y := by
  unfold idxP; rw [hl]; exact (firstAt_none hno).symm
end Go.Proofs.YtellglbmbocgkaaGreatDoor
end
section
namespace Go.Proofs.YtellglbmbocgkaaGreatDoor
open Go Go.RowKit
def cmpI (a b : Int) : Int := if a < b then -1 else if b < a then 1 else 0
def orI (a b : Int) : Int := if a = 0 then b else a
def cmpP (ax ay bx bx' : Int) : Int := orI (cmpI ay bx') (cmpI ax bx)
def befP (ax ay bx bx' : Int) : Bool := decide (ay < bx' ∨ ay = bx' ∧ ax < bx)
theorem cmpP_bef (ax ay bx bx' : Int) : decide (0 ≤ cmpP ax ay bx bx') = !befP ax ay bx bx' := by
  unfold cmpP befP orI cmpI
  rw [Bool.eq_iff_iff]
  simp only [decide_eq_true_eq, Bool.not_eq_true', decide_eq_false_iff_not]
  repeat' split
  all_goals omega
def inR (n : Int) : Bool := decide (-2 ≤ n ∧ n ≤ 2)
/-- The element i is in range and behind the one ahead of it. -/
def okAt (l : List (Int × Int)) (i : Nat) : Bool := match l[i]? with
  | none => true
  | some p => inR p.1 && inR p.2 && (i == 0 || (match l[i - 1]? with | none => true | some q => befP q.1 q.2 p.1 p.2))
def rightL (l : List (Int × Int)) : Bool := decide (1 ≤ l.length ∧ l.length ≤ 25) && (List.range l.length).all (okAt l)
theorem rightL_len {l : List (Int × Int)} {n : Nat} (hl : l.length = n) (h : n < 1 ∨ 25 < n) : rightL l = false := by
  unfold rightL; rw [hl, decide_eq_false (by omega)]; rfl
theorem rightL_bad {l : List (Int × Int)} {n j : Nat} (hl : l.length = n) (hj : j < n) (h : okAt l j = false) : rightL l = false := by
  unfold rightL
  rw [hl, Bool.and_eq_false_iff]
  right
  rw [List.all_eq_false]
  exact ⟨j, by simpa using hj, by simp [h]⟩
theorem rightL_all {l : List (Int × Int)} {n : Nat} (hl : l.length = n) (h1 : 1 ≤ n) (h2 : n ≤ 25) (h : ∀ j, j < n → okAt l j = true) : rightL l = true := by
  unfold rightL
  rw [hl, decide_eq_true (by omega), Bool.true_and, List.all_eq_true]
  intro j hj
  exact h j (by simpa using hj)
theorem ok_step {l : List (Int × Int)} {j : Nat} (h : ∀ r, r < j → okAt l r = true) (hj : okAt l j = true) : ∀ r, r < j + 1 → okAt l r = true := by
  intro r hr
  by_cases e : r = j
  · rw [e]; exact hj
  · exact h r (by omega)
theorem okAt_out {l : List (Int × Int)} {j : Nat} {x y : Int} (hx : l[j]? = some (x, y)) (h : x < -2 ∨ 2 < x ∨ y < -2 ∨ 2 < y) : okAt l j = false := by
  unfold okAt
  rw [hx]
  have : (inR x && inR y) = false := by unfold inR; rw [Bool.eq_false_iff]; simp only [ne_eq, Bool.and_eq_true, decide_eq_true_eq]; omega
  simp only [this, Bool.false_and]
theorem okAt_first {l : List (Int × Int)} {x y : Int} (hx : l[0]? = some (x, y)) (h : -2 ≤ x ∧ x ≤ 2 ∧ -2 ≤ y ∧ y ≤ 2) : okAt l 0 = true := by
  unfold okAt
  rw [hx]
  have : (inR x && inR y) = true := by unfold inR; simp only [Bool.and_eq_true, decide_eq_true_eq]; omega
  simp only [this]; rfl
theorem okAt_next {l : List (Int × Int)} {j : Nat} {x y a b : Int} (hj : 0 < j) (hx : l[j]? = some (x, y)) (hp : l[j - 1]? = some (a, b)) (h : -2 ≤ x ∧ x ≤ 2 ∧ -2 ≤ y ∧ y ≤ 2) : okAt l j = befP a b x y := by
  unfold okAt
  rw [hx, hp]
  have h1 : (inR x && inR y) = true := by unfold inR; simp only [Bool.and_eq_true, decide_eq_true_eq]; omega
  have h2 : (j == 0) = false := by simp; omega
  simp only [h1, h2]; rfl
end Go.Proofs.YtellglbmbocgkaaGreatDoor
end
section
namespace Go.Proofs.YtellglbmbocgkaaGreatDoor
open Go Go.RowKit
def validB (x y : Int) : Bool := decide (-1048576 ≤ x ∧ x ≤ 1048576 ∧ -1048576 ≤ y ∧ y ≤ 1048576)
end Go.Proofs.YtellglbmbocgkaaGreatDoor
end
section
namespace Go.Proofs.YtellglbmbocgkaaGreatDoor
open Go Go.RowKit
def Pt (x y : Int) : Prop := -1048576 ≤ x ∧ x ≤ 1048576 ∧ -1048576 ≤ y ∧ y ≤ 1048576
def ifB (q : Bool) (n : Int) : Int := if q = true then n else 0
def okP (p : Int × Int) : Bool := validB p.1 p.2
def arOk (l : List (Int × Int)) : Bool := !l.isEmpty && l.all okP
def loX (l : List (Int × Int)) (d : Int) : Int := l.foldl (fun m p => min m p.1) d
def loY (l : List (Int × Int)) (d : Int) : Int := l.foldl (fun m p => min m p.2) d
def hiX (l : List (Int × Int)) (d : Int) : Int := l.foldl (fun m p => max m p.1) d
def hiY (l : List (Int × Int)) (d : Int) : Int := l.foldl (fun m p => max m p.2) d
def fstX (l : List (Int × Int)) : Int := match l with | [] => 0 | p :: _ => p.1
def fstY (l : List (Int × Int)) : Int := match l with | [] => 0 | p :: _ => p.2
def arX (l : List (Int × Int)) : Int := ifB (arOk l) (loX l (fstX l))
def arY (l : List (Int × Int)) : Int := ifB (arOk l) (loY l (fstY l))
def arW (l : List (Int × Int)) : Int := ifB (arOk l) (hiX l (fstX l) - loX l (fstX l) + 1)
def arH (l : List (Int × Int)) : Int := ifB (arOk l) (hiY l (fstY l) - loY l (fstY l) + 1)
section
variable {l : List (Int × Int)} {j : Nat} {x y d : Int}
theorem loX_step (h : l[j]? = some (x, y)) : loX (l.take (j + 1)) d = min (loX (l.take j) d) x := by
  unfold loX; rw [List.take_add_one, List.foldl_append, h]; rfl
theorem loY_step (h : l[j]? = some (x, y)) : loY (l.take (j + 1)) d = min (loY (l.take j) d) y := by
  unfold loY; rw [List.take_add_one, List.foldl_append, h]; rfl
theorem hiX_step (h : l[j]? = some (x, y)) : hiX (l.take (j + 1)) d = max (hiX (l.take j) d) x := by
  unfold hiX; rw [List.take_add_one, List.foldl_append, h]; rfl
theorem hiY_step (h : l[j]? = some (x, y)) : hiY (l.take (j + 1)) d = max (hiY (l.take j) d) y := by
  unfold hiY; rw [List.take_add_one, List.foldl_append, h]; rfl
end
theorem fst_of {l : List (Int × Int)} {x y : Int} (h : l[0]? = some (x, y)) : fstX l = x ∧ fstY l = y := by
  cases l with
  | nil => simp at h
  | cons p l => simp at h; subst h; exact ⟨rfl, rfl⟩
theorem arOk_all {l : List (Int × Int)} {n : Nat} (hl : l.length = n) (h0 : 0 < n) (h : ∀ j x y, j < n → l[j]? = some (x, y) → validB x y = true) : arOk l = true := by
  unfold arOk
  rw [Bool.and_eq_true, List.all_eq_true]
  refine ⟨by (cases l with | nil => (simp at hl; omega) | cons _ _ => rfl), fun p hp => ?_⟩
  obtain ⟨i, hi, e⟩ := List.getElem_of_mem hp
  exact h i p.1 p.2 (by omega) (by rw [List.getElem?_eq_getElem hi, e])
theorem lo_bound : ∀ (l : List (Int × Int)) (d : Int), (∀ p, p ∈ l → Pt p.1 p.2) → (-1048576 ≤ d ∧ d ≤ 1048576) →
    (-1048576 ≤ loX l d ∧ loX l d ≤ 1048576) ∧ (-1048576 ≤ loY l d ∧ loY l d ≤ 1048576) ∧ (-1048576 ≤ hiX l d ∧ hiX l d ≤ 1048576) ∧ (-1048576 ≤ hiY l d ∧ hiY l d ≤ 1048576)
  | [], d, _, h => ⟨h, h, h, h⟩
  | p :: l, d, hp, h => by
    have hpp := hp p (by simp)
    unfold Pt at hpp
    have h1 := lo_bound l (min d p.1) (fun q hq => hp q (by simp [hq])) (by omega)
    have h2 := lo_bound l (min d p.2) (fun q hq => hp q (by simp [hq])) (by omega)
    have h3 := lo_bound l (max d p.1) (fun q hq => hp q (by simp [hq])) (by omega)
    have h4 := lo_bound l (max d p.2) (fun q hq => hp q (by simp [hq])) (by omega)
    exact ⟨h1.1, h2.2.1, h3.2.2.1, h4.2.2.2⟩
theorem validB_iff {x y : Int} : validB x y = true ↔ Pt x y := by unfold validB Pt; simp
end Go.Proofs.YtellglbmbocgkaaGreatDoor
end
section
namespace Go.Proofs.YtellglbmbocgkaaGreatDoor
open Go Go.RowKit
def cBef (a b : Int × Int × Int) : Bool := befP a.1 a.2.1 b.1 b.2.1
def cmpO (a b : Int × Int × Int) : Int := cmpP a.1 a.2.1 b.1 b.2.1
def okC (l : List (Int × Int × Int)) (i : Nat) : Bool := match l[i]? with
  | none => true
  | some p => validB p.1 p.2.1 && decide (1 ≤ p.2.2 ∧ p.2.2 ≤ 7) && (i == 0 || (match l[i - 1]? with | none => true | some q => cBef q p))
def rightC (l : List (Int × Int × Int)) : Bool := decide (l.length ≤ 5000) && (List.range l.length).all (okC l)
section
variable {l : List (Int × Int × Int)} {n j : Nat} {x y s a b c : Int}
theorem rightC_len (hl : l.length = n) (h : 5000 < n) : rightC l = false := by
  unfold rightC; rw [hl, decide_eq_false (by omega)]; rfl
theorem rightC_bad (hl : l.length = n) (hj : j < n) (h : okC l j = false) : rightC l = false := by
  unfold rightC
  rw [hl, Bool.and_eq_false_iff]
  right
  rw [List.all_eq_false]
  exact ⟨j, by simpa using hj, by simp [h]⟩
theorem rightC_all (hl : l.length = n) (h2 : n ≤ 5000) (h : ∀ j, j < n → okC l j = true) : rightC l = true := by
  unfold rightC
  rw [hl, decide_eq_true (by omega), Bool.true_and, List.all_eq_true]
  intro j hj
  exact h j (by simpa using hj)
theorem okC_step (h : ∀ r, r < j → okC l r = true) (hj : okC l j = true) : ∀ r, r < j + 1 → okC l r = true := by
  intro r hr
  by_cases e : r = j
  · rw [e]; exact hj
  · exact h r (by omega)
theorem okC_place (hx : l[j]? = some (x, y, s)) (h : validB x y = false) : okC l j = false := by
  unfold okC; rw [hx]; simp only [h, Bool.false_and]
theorem okC_state (hx : l[j]? = some (x, y, s)) (h : s < 1 ∨ 7 < s) : okC l j = false := by
  unfold okC; rw [hx]
  have : decide (1 ≤ s ∧ s ≤ 7) = false := decide_eq_false (by omega)
  simp only [this, Bool.and_false, Bool.false_and]
theorem okC_first (hx : l[0]? = some (x, y, s)) (hv : validB x y = true) (h : 1 ≤ s ∧ s ≤ 7) : okC l 0 = true := by
  unfold okC; rw [hx]
  have : decide (1 ≤ s ∧ s ≤ 7) = true := decide_eq_true h
  simp only [this, hv]; rfl
theorem okC_next (hj : 0 < j) (hx : l[j]? = some (x, y, s)) (hp : l[j - 1]? = some (a, b, c)) (hv : validB x y = true) (h : 1 ≤ s ∧ s ≤ 7) : okC l j = befP a b x y := by
  unfold okC; rw [hx, hp]
  have h1 : decide (1 ≤ s ∧ s ≤ 7) = true := decide_eq_true h
  have h2 : (j == 0) = false := by simp; omega
  simp only [h1, hv, h2]; rfl
theorem rightC_ok (h : rightC l = true) : l.length ≤ 5000 ∧ ∀ j, okC l j = true := by
  unfold rightC at h
  rw [Bool.and_eq_true, List.all_eq_true, decide_eq_true_eq] at h
  refine ⟨h.1, fun j => ?_⟩
  by_cases hj : j < l.length
  · exact h.2 j (by simpa using hj)
  · unfold okC; rw [List.getElem?_eq_none (by omega)]
theorem rightC_elem (h : rightC l = true) (hx : l[j]? = some (x, y, s)) : Pt x y ∧ 1 ≤ s ∧ s ≤ 7 := by
  have := (rightC_ok h).2 j
  unfold okC at this
  rw [hx] at this
  simp only [Bool.and_eq_true, decide_eq_true_eq] at this
  exact ⟨validB_iff.1 this.1.1, this.1.2.1, this.1.2.2⟩
end
theorem cBef_irr (a : Int × Int × Int) : cBef a a = false := by unfold cBef befP; exact decide_eq_false (by omega)
theorem cBef_tr {a b c : Int × Int × Int} (h1 : cBef a b = true) (h2 : cBef b c = true) : cBef a c = true := by
  unfold cBef befP at *; simp only [decide_eq_true_eq] at *; omega
def SSC (l : List (Int × Int × Int)) : Prop := l.Pairwise fun a b => cBef a b = true
theorem pairwise_of_next {α : Type} {r : α → α → Prop} (tr : ∀ a b c, r a b → r b c → r a c) : ∀ (l : List α), (∀ j a b, l[j]? = some a → l[j + 1]? = some b → r a b) → l.Pairwise r
  | [], _ => List.Pairwise.nil
  | [a], _ => by simp
  | a :: b :: l, h => by
    have ih := pairwise_of_next tr (b :: l) (fun j x y hx hy => h (j + 1) x y (by simpa using hx) (by simpa using hy))
    refine List.pairwise_cons.2 ⟨fun x hx => ?_, ih⟩
    have hab : r a b := h 0 a b rfl rfl
    rcases List.mem_cons.1 hx with rfl | hm
    · exact hab
    · exact tr _ _ _ hab ((List.pairwise_cons.1 ih).1 x hm)
theorem rightC_sorted {l : List (Int × Int × Int)} (h : rightC l = true) : SSC l := by
  refine pairwise_of_next (r := fun a b => cBef a b = true) (fun a b c h1 h2 => cBef_tr h1 h2) l fun j p q hp hq => ?_
  have := (rightC_ok h).2 (j + 1)
  unfold okC at this
  rw [hq, show j + 1 - 1 = j by omega, hp] at this
  simp only [Bool.and_eq_true, Bool.or_eq_true] at this
  rcases this.2 with h0 | h0
  · simp at h0
  · exact h0
theorem rightC_of {l : List (Int × Int × Int)} (h1 : l.length ≤ 5000) (h2 : ∀ p, p ∈ l → Pt p.1 p.2.1 ∧ 1 ≤ p.2.2 ∧ p.2.2 ≤ 7) (h3 : SSC l) : rightC l = true := by
  refine rightC_all rfl h1 fun j hj => ?_
  obtain ⟨p, hp⟩ : ∃ p, p = l[j] := ⟨_, rfl⟩
  obtain ⟨x, y, s⟩ := p
  have hx : l[j]? = some (x, y, s) := by rw [List.getElem?_eq_getElem hj, ← hp]
  have hm := h2 _ (List.mem_of_getElem? hx)
  have hv := validB_iff.2 hm.1
  rcases Nat.eq_zero_or_pos j with rfl | h0
  · exact okC_first hx hv hm.2
  · have hj1 : j - 1 < l.length := by omega
    obtain ⟨q, hq⟩ : ∃ q, q = l[j - 1] := ⟨_, rfl⟩
    obtain ⟨a, b, c⟩ := q
    have hy : l[j - 1]? = some (a, b, c) := by rw [List.getElem?_eq_getElem hj1, ← hq]
    rw [okC_next h0 hx hy hv hm.2]
    have := (List.pairwise_iff_getElem.1 h3) (j - 1) j (by omega) hj (by omega)
    rw [← hp, ← hq] at this
    exact this
def getC : List (Int × Int × Int) → Int → Int → Int
  | [], _, _ => 0
  | c :: l, x, y => if c.1 = x ∧ c.2.1 = y then c.2.2 else getC l x y
def topC (l : List (Int × Int × Int)) : Int := l.foldl (fun m p => max m p.2.2) 0
theorem topC_step {l : List (Int × Int × Int)} {j : Nat} {x y s : Int} (h : l[j]? = some (x, y, s)) : topC (l.take (j + 1)) = max (topC (l.take j)) s := by
  unfold topC; rw [List.take_add_one, List.foldl_append, h]; rfl
def cmpC (a b : Int × Int × Int) : Int := orI (cmpO a b) (cmpI a.2.2 b.2.2)
def cmpL : List (Int × Int × Int) → List (Int × Int × Int) → Int
  | [], [] => 0
  | [], _ :: _ => -1
  | _ :: _, [] => 1
  | a :: l, b :: r => if a = b then cmpL l r else cmpC a b
theorem cmpC_zero {a b : Int × Int × Int} (h : cmpC a b = 0) : a = b := by
  obtain ⟨a1, a2, a3⟩ := a
  obtain ⟨b1, b2, b3⟩ := b
  unfold cmpC cmpO cmpP orI cmpI at h
  simp only [Prod.mk.injEq]
  simp only at h
  split at h <;> (repeat' split at h) <;> omega
theorem cmpL_skip : ∀ {l r : List (Int × Int × Int)} {j : Nat}, j ≤ l.length → j ≤ r.length → (∀ i, i < j → l[i]? = r[i]?) → cmpL l r = cmpL (l.drop j) (r.drop j)
  | l, r, 0, _, _, _ => rfl
  | [], r, j + 1, h, _, _ => by simp at h
  | a :: l, [], j + 1, _, h, _ => by simp at h
  | a :: l, b :: r, j + 1, h1, h2, h => by
    have e : a = b := by have := h 0 (by omega); simpa using this
    subst e
    show (if a = a then cmpL l r else cmpC a a) = cmpL (l.drop j) (r.drop j)
    rw [if_pos rfl]
    exact cmpL_skip (by simpa using h1) (by simpa using h2) fun i hi => by have := h (i + 1) (by omega); simpa using this
theorem cmpL_at {l r : List (Int × Int × Int)} {j : Nat} {a b : Int × Int × Int} (h : ∀ i, i < j → l[i]? = r[i]?) (ha : l[j]? = some a) (hb : r[j]? = some b) (hne : a ≠ b) : cmpL l r = cmpC a b := by
  have h1 := (List.getElem?_eq_some_iff.1 ha).1
  have h2 := (List.getElem?_eq_some_iff.1 hb).1
  rw [cmpL_skip (by omega) (by omega) h, List.drop_eq_getElem_cons h1, List.drop_eq_getElem_cons h2]
  unfold cmpL
  rw [(List.getElem?_eq_some_iff.1 ha).2, (List.getElem?_eq_some_iff.1 hb).2, if_neg hne]
theorem cmpL_end {l r : List (Int × Int × Int)} {n m j : Nat} (hl : l.length = n) (hr : r.length = m) (hj : j ≤ n) (hk : j ≤ m) (h : ∀ i, i < j → l[i]? = r[i]?) (he : j = n ∨ j = m) : cmpL l r = cmpI n m := by
  rw [cmpL_skip (by omega) (by omega) h]
  unfold cmpI
  rcases he with rfl | rfl
  · rw [List.drop_of_length_le (by omega)]
    by_cases e : j = m
    · rw [List.drop_of_length_le (by omega), if_neg (by omega), if_neg (by omega)]; rfl
    · rw [List.drop_eq_getElem_cons (by omega), if_pos (by omega)]; rfl
  · rw [List.drop_of_length_le (by omega : r.length ≤ j)]
    by_cases e : j = n
    · rw [List.drop_of_length_le (by omega), if_neg (by omega), if_neg (by omega)]; rfl
    · rw [List.drop_eq_getElem_cons (by omega), if_neg (by omega), if_pos (by omega)]; rfl
end Go.Proofs.YtellglbmbocgkaaGreatDoor
end
section
namespace Go.Proofs.YtellglbmbocgkaaGreatDoor
open Go Go.RowKit
/-- What is wrong with one cell. -/
def frBad (c : Int × Int × Int) : Int := if validB c.1 c.2.1 = true then (if 0 ≤ c.2.2 ∧ c.2.2 ≤ 7 then 0 else 10) else 5
def frFirst : List (Int × Int × Int) → Int
  | [] => 0
  | c :: l => if frBad c = 0 then frFirst l else frBad c
theorem frFirst_bad : ∀ {l : List (Int × Int × Int)} {j : Nat} {c : Int × Int × Int} {e : Int}, (∀ i d, i < j → l[i]? = some d → frBad d = 0) → l[j]? = some c → frBad c = e → e ≠ 0 → frFirst l = e
  | [], j, c, e, _, h, _, _ => by simp at h
  | d :: l, 0, c, e, _, h, he, hn => by
    have : d = c := by simpa using h
    subst this
    unfold frFirst
    rw [he, if_neg hn]
  | d :: l, j + 1, c, e, hg, h, he, hn => by
    unfold frFirst
    rw [if_pos (hg 0 d (by omega) rfl)]
    exact frFirst_bad (fun i x hi hx => hg (i + 1) x (Nat.succ_lt_succ hi) (by simpa using hx)) (by simpa using h) he hn
theorem frFirst_good : ∀ {l : List (Int × Int × Int)}, (∀ (i : Nat) d, l[i]? = some d → frBad d = 0) → frFirst l = 0
  | [], _ => rfl
  | d :: l, hg => by
    unfold frFirst
    rw [if_pos (hg 0 d rfl)]
    exact frFirst_good fun i x hx => hg (i + 1) x (by simpa using hx)
/-- The cells with a state. -/
def nzC (c : Int × Int × Int) : Bool := decide (0 < c.2.2)
def nz (l : List (Int × Int × Int)) : List (Int × Int × Int) := l.filter nzC
theorem nz_step {l : List (Int × Int × Int)} {j : Nat} {c : Int × Int × Int} (h : l[j]? = some c) : nz (l.take (j + 1)) = nz (l.take j) ++ (if nzC c = true then [c] else []) := by
  unfold nz
  rw [List.take_add_one, List.filter_append, h]
  simp [List.filter_cons]
/-- Insertion behind those at the same position. -/
def insC : List (Int × Int × Int) → Int × Int × Int → List (Int × Int × Int)
  | [], c => [c]
  | d :: p, c => if cBef c d = true then c :: d :: p else d :: insC p c
def srtC (l : List (Int × Int × Int)) : List (Int × Int × Int) := l.foldl insC []
/-- No cell stands ahead of one that it is behind. -/
def WC (l : List (Int × Int × Int)) : Prop := l.Pairwise fun a b => cBef b a = false
theorem insC_perm : ∀ (p : List (Int × Int × Int)) (c : Int × Int × Int), (insC p c).Perm (c :: p)
  | [], c => List.Perm.refl _
  | d :: p, c => by
    unfold insC
    split
    · exact List.Perm.refl _
    · exact (List.Perm.cons d (insC_perm p c)).trans (List.Perm.swap c d p)
theorem cBef_asym {a b : Int × Int × Int} (h : cBef a b = true) : cBef b a = false := by
  unfold cBef befP at *; simp only [decide_eq_true_eq, decide_eq_false_iff_not] at *; omega
theorem cBef_weak {a b c : Int × Int × Int} (h1 : cBef a b = true) (h2 : cBef c b = false) : cBef c a = false := by
  unfold cBef befP at *; simp only [decide_eq_true_eq, decide_eq_false_iff_not] at *; omega
theorem insC_wc : ∀ (p : List (Int × Int × Int)) (c : Int × Int × Int), WC p → WC (insC p c)
  | [], c, _ => by simp [insC, WC]
  | d :: p, c, h => by
    unfold WC at h
    obtain ⟨h1, h2⟩ := List.pairwise_cons.1 h
    unfold insC
    split
    · rename_i hc
      refine List.pairwise_cons.2 ⟨fun x hx => ?_, h⟩
      rcases List.mem_cons.1 hx with rfl | hm
      · exact cBef_asym hc
      · exact cBef_weak hc (h1 x hm)
    · rename_i hc
      refine List.pairwise_cons.2 ⟨fun x hx => ?_, insC_wc p c h2⟩
      rcases List.mem_cons.1 ((insC_perm p c).mem_iff.1 hx) with rfl | hm
      · simpa using hc
      · exact h1 x hm
theorem srtC_aux : ∀ (l o : List (Int × Int × Int)), WC o → WC (l.foldl insC o) ∧ (l.foldl insC o).Perm (l ++ o)
  | [], o, h => ⟨h, List.Perm.refl _⟩
  | c :: l, o, h => by
    obtain ⟨h1, h2⟩ := srtC_aux l (insC o c) (insC_wc o c h)
    refine ⟨h1, h2.trans ?_⟩
    exact ((insC_perm o c).append_left l).trans List.perm_middle
theorem srtC_wc (l : List (Int × Int × Int)) : WC (srtC l) := (srtC_aux l [] List.Pairwise.nil).1
theorem srtC_perm (l : List (Int × Int × Int)) : (srtC l).Perm l := by
  have := (srtC_aux l [] List.Pairwise.nil).2
  simpa [srtC] using this
def posD (c : Int × Int × Int) : Int × Int := (c.1, c.2.1)
theorem ssc_iff {l : List (Int × Int × Int)} : SSC l ↔ WC l ∧ (l.map posD).Nodup := by
  unfold SSC WC List.Nodup
  rw [List.pairwise_map]
  constructor
  · intro h
    refine ⟨h.imp fun hab => cBef_asym hab, h.imp fun {a b} hab e => ?_⟩
    unfold posD at e
    injection e with e1 e2
    unfold cBef befP at hab
    simp only [decide_eq_true_eq] at hab
    omega
  · rintro ⟨h1, h2⟩
    rw [List.pairwise_iff_getElem] at *
    intro i j hi hj hij
    have a := h1 i j hi hj hij
    have b := h2 i j hi hj hij
    unfold posD at b
    unfold cBef befP at *
    simp only [decide_eq_true_eq, decide_eq_false_iff_not] at *
    rcases Classical.em (l[j].2.1 = l[i].2.1) with e | e
    · rcases Classical.em (l[j].1 = l[i].1) with f | f
      · exact absurd (by rw [e, f]) b
      · omega
    · omega
theorem ssc_unique : ∀ (a b : List (Int × Int × Int)), SSC a → SSC b → (∀ x, x ∈ a ↔ x ∈ b) → a = b
  | [], [], _, _, _ => rfl
  | [], y :: b, _, _, he => absurd ((he y).2 (by simp)) (by simp)
  | x :: a, [], _, _, he => absurd ((he x).1 (by simp)) (by simp)
  | x :: a, y :: b, ha, hb, he => by
    obtain ⟨h1, h2⟩ := List.pairwise_cons.1 ha
    obtain ⟨h3, h4⟩ := List.pairwise_cons.1 hb
    have hxy : x = y := by
      rcases List.mem_cons.1 ((he x).1 (by simp)) with e | hm
      · exact e
      · rcases List.mem_cons.1 ((he y).2 (by simp)) with e | hm2
        · exact e.symm
        · have := cBef_asym (h3 x hm)
          rw [h1 y hm2] at this; cases this
    subst hxy
    rw [ssc_unique a b h2 h4 fun z => ?_]
    constructor
    · intro hz
      rcases List.mem_cons.1 ((he z).1 (by simp [hz])) with e | hm
      · subst e; have := h1 z hz; rw [cBef_irr] at this; cases this
      · exact hm
    · intro hz
      rcases List.mem_cons.1 ((he z).2 (by simp [hz])) with e | hm
      · subst e; have := h3 z hz; rw [cBef_irr] at this; cases this
      · exact hm
theorem ssc_perm {l m : List (Int × Int × Int)} (hp : l.Perm m) (hl : WC l) (hm : WC m) : SSC l ↔ SSC m := by
  rw [ssc_iff, ssc_iff]
  have := (hp.map posD).nodup_iff
  exact ⟨fun ⟨_, h⟩ => ⟨hm, this.1 h⟩, fun ⟨_, h⟩ => ⟨hl, this.2 h⟩⟩
/-- Each cell is ahead of the next one. -/
def ssB : List (Int × Int × Int) → Bool
  | [] => true
  | [_] => true
  | a :: b :: l => cBef a b && ssB (b :: l)
theorem ssB_iff : ∀ {l : List (Int × Int × Int)}, ssB l = true ↔ SSC l
  | [] => by simp [ssB, SSC]
  | [a] => by simp [ssB, SSC]
  | a :: b :: l => by
    have ih := ssB_iff (l := b :: l)
    unfold ssB
    rw [Bool.and_eq_true, ih]
    constructor
    · rintro ⟨h1, h2⟩
      refine List.pairwise_cons.2 ⟨fun x hx => ?_, h2⟩
      rcases List.mem_cons.1 hx with rfl | hm
      · exact h1
      · exact cBef_tr h1 ((List.pairwise_cons.1 h2).1 x hm)
    · intro h
      obtain ⟨h1, h2⟩ := List.pairwise_cons.1 h
      exact ⟨h1 b (by simp), h2⟩
/-- The code that From returns, and the pattern. -/
def frE (l : List (Int × Int × Int)) : Int := if frFirst l = 0 then (if ssB (srtC (nz l)) = true then (if (nz l).length ≤ 5000 then 0 else 6) else 8) else frFirst l
def frL (l : List (Int × Int × Int)) : List (Int × Int × Int) := if frE l = 0 then srtC (nz l) else []
theorem frL_no {l : List (Int × Int × Int)} {e : Int} (h : frE l = e) (hn : e ≠ 0) : frL l = [] := by unfold frL; rw [if_neg (by rw [h]; exact hn)]
theorem frL_ok {l : List (Int × Int × Int)} (h : frE l = 0) : frL l = srtC (nz l) := by unfold frL; rw [if_pos h]
theorem frE_first {l : List (Int × Int × Int)} {e : Int} (h : frFirst l = e) (hn : e ≠ 0) : frE l = e := by unfold frE; rw [h, if_neg hn]
theorem frE_twice {l : List (Int × Int × Int)} (h : frFirst l = 0) (hs : ssB (srtC (nz l)) = false) : frE l = 8 := by unfold frE; rw [if_pos h, if_neg (by rw [hs]; simp)]
theorem frE_size {l : List (Int × Int × Int)} (h : frFirst l = 0) (hs : ssB (srtC (nz l)) = true) (hz : 5000 < (nz l).length) : frE l = 6 := by unfold frE; rw [if_pos h, if_pos hs, if_neg (by omega)]
theorem frE_ok {l : List (Int × Int × Int)} (h : frFirst l = 0) (hs : ssB (srtC (nz l)) = true) (hz : (nz l).length ≤ 5000) : frE l = 0 := by unfold frE; rw [if_pos h, if_pos hs, if_pos hz]
/-- A sorted list of the cells whose neighbours stand at different positions is the pattern. -/
theorem sorted_distinct {l' m : List (Int × Int × Int)} (hp : l'.Perm m) (hw : WC l') (hd : ∀ j a b, l'[j]? = some a → l'[j + 1]? = some b → posD a ≠ posD b) : ssB (srtC m) = true ∧ srtC m = l' := by
  have hs : SSC l' := by
    refine pairwise_of_next (r := fun a b => cBef a b = true) (fun a b c h1 h2 => cBef_tr h1 h2) l' fun j a b ha hb => ?_
    have h1 := (List.getElem?_eq_some_iff.1 ha)
    have h2 := (List.getElem?_eq_some_iff.1 hb)
    have hwk := (List.pairwise_iff_getElem.1 hw) j (j + 1) h1.1 h2.1 (by omega)
    rw [h1.2, h2.2] at hwk
    have hne := hd j a b ha hb
    unfold posD at hne
    unfold cBef befP at *
    simp only [decide_eq_true_eq, decide_eq_false_iff_not] at *
    rcases Classical.em (b.2.1 = a.2.1) with e | e
    · rcases Classical.em (b.1 = a.1) with f | f
      · exact absurd (by rw [e, f]) hne
      · omega
    · omega
  have hsm : SSC (srtC m) := (ssc_perm ((srtC_perm m).trans hp.symm) (srtC_wc m) hw).2 hs
  exact ⟨ssB_iff.2 hsm, ssc_unique _ _ hsm hs fun x => ((srtC_perm m).trans hp.symm).mem_iff⟩
/-- Two neighbours at one position: it is none. -/
theorem sorted_twice {l' m : List (Int × Int × Int)} {j : Nat} {a b : Int × Int × Int} (hp : l'.Perm m) (hw : WC l') (ha : l'[j]? = some a) (hb : l'[j + 1]? = some b) (he : posD a = posD b) : ssB (srtC m) = false := by
  rw [Bool.eq_false_iff]
  intro h
  have hs := (ssc_perm ((srtC_perm m).trans hp.symm) (srtC_wc m) hw).1 (ssB_iff.1 h)
  have h1 := (List.getElem?_eq_some_iff.1 ha)
  have h2 := (List.getElem?_eq_some_iff.1 hb)
  have := (List.pairwise_iff_getElem.1 hs) j (j + 1) h1.1 h2.1 (by omega)
  rw [h1.2, h2.2] at this
  unfold posD at he
  injection he with e1 e2
  unfold cBef befP at this
  simp only [decide_eq_true_eq] at this
  omega
end Go.Proofs.YtellglbmbocgkaaGreatDoor
end
section
namespace Go.Proofs.YtellglbmbocgkaaGreatDoor
open Go Go.RowKit
def mv5 (dx dy : Int) (c : Int × Int × Int) : Int × Int × Int := (c.1 + dx, c.2.1 + dy, c.2.2)
theorem cBef_mv (dx dy : Int) (a b : Int × Int × Int) : cBef (mv5 dx dy a) (mv5 dx dy b) = cBef a b := by
  unfold cBef befP mv5; simp only; congr 1; rw [eq_iff_iff]; omega
theorem rightC_mv {l : List (Int × Int × Int)} {dx dy : Int} (h : rightC l = true) (hp : ∀ c ∈ l, Pt (c.1 + dx) (c.2.1 + dy)) : rightC (l.map (mv5 dx dy)) = true := by
  refine rightC_of (by rw [List.length_map]; exact (rightC_ok h).1) (fun p hm => ?_) ?_
  · obtain ⟨c, hc, rfl⟩ := List.mem_map.1 hm
    obtain ⟨i, hi⟩ := List.getElem?_of_mem hc
    obtain ⟨c1, c2, c3⟩ := c
    have := rightC_elem h hi
    exact ⟨hp _ hc, this.2⟩
  · unfold SSC
    rw [List.pairwise_map]
    exact (rightC_sorted h).imp fun {a b} hab => by rw [cBef_mv]; exact hab
theorem getC_mem : ∀ {l : List (Int × Int × Int)} {x y s : Int}, SSC l → (x, y, s) ∈ l → getC l x y = s
  | [], _, _, _, _, h => by cases h
  | c :: l, x, y, s, hS, h => by
    obtain ⟨h1, h2⟩ := List.pairwise_cons.1 hS
    unfold getC
    rcases List.mem_cons.1 h with e | hm
    · subst e; rw [if_pos ⟨rfl, rfl⟩]
    · have := h1 _ hm
      rw [if_neg (fun ⟨e1, e2⟩ => by
        unfold cBef befP at this
        simp only [decide_eq_true_eq] at this
        omega)]
      exact getC_mem h2 hm
theorem getC_not : ∀ {l : List (Int × Int × Int)} {x y : Int}, (∀ c ∈ l, ¬(c.1 = x ∧ c.2.1 = y)) → getC l x y = 0
  | [], _, _, _ => rfl
  | c :: l, x, y, h => by
    unfold getC
    rw [if_neg (h c (by simp))]
    exact getC_not fun d hd => h d (by simp [hd])
end Go.Proofs.YtellglbmbocgkaaGreatDoor
end
section
namespace Go.Proofs.YtellglbmbocgkaaGreatDoor
open Go Go.RowKit
section
variable {l : List (Int × Int × Int × Int)} {n j : Nat} {x y f t a b c d : Int}
end
section
variable {a b p q : List (Int × Int × Int)} {x y s f t : Int}
def ofB (a : List (Int × Int × Int)) (c : Int × Int × Int) : List (Int × Int × Int × Int) := if getC a c.1 c.2.1 = 0 then [(c.1, c.2.1, 0, c.2.2)] else []
end
end Go.Proofs.YtellglbmbocgkaaGreatDoor
end
section
namespace Go.Proofs.YtellglbmbocgkaaGreatDoor
open Go Go.RowKit
structure GdC (M : List (Int × Int × Int)) : Prop where
  ok : ∀ c ∈ M, frBad c = 0
  nd : (M.map posD).Nodup
section
variable {M M' : List (Int × Int × Int)}
theorem GdC.first (h : GdC M) : frFirst M = 0 := frFirst_good fun i d hd => h.ok d (List.mem_of_getElem? hd)
end
section
variable {a b p q : List (Int × Int × Int)} {l : List (Int × Int × Int × Int)} {x y s f t : Int}
end
end Go.Proofs.YtellglbmbocgkaaGreatDoor
end
section
namespace Go.Proofs.YtellglbmbocgkaaGreatDoor
open Go Go.RowKit
abbrev Cel := Int × Int × Int
abbrev Chg := Int × Int × Int × Int
abbrev TFr := Int × Bool × List Cel × List Chg
section
variable {key g : Int} {K j n : Nat} {fs : List TFr} {fu : Bool} {C : List Cel} {D : List Chg}
end
end Go.Proofs.YtellglbmbocgkaaGreatDoor
end
section
namespace Go.Proofs.YtellglbmbocgkaaGreatDoor
open Go Go.RowKit
def evL : List (Int × Int × Int) → List (Int × Int × Int) → List (Option (Int × Int × Int) × Option (Int × Int × Int))
  | [], b => b.map fun y => (none, some y)
  | x :: a, [] => (x :: a).map fun x => (some x, none)
  | x :: a, y :: b => if cBef x y = true then (some x, none) :: evL a (y :: b) else if cBef y x = true then (none, some y) :: evL (x :: a) b else (some x, some y) :: evL a b
termination_by a b => a.length + b.length
section
variable {a b : List (Int × Int × Int)} {x y : Int × Int × Int}
theorem evL_nil_left (b : List (Int × Int × Int)) : evL [] b = b.map fun y => (none, some y) := by rw [evL]
theorem evL_left (a : List (Int × Int × Int)) (x : Int × Int × Int) : evL (x :: a) [] = (some x, none) :: evL a [] := by
  cases a with
  | nil => rw [evL_nil_left, evL]; rfl
  | cons z a => rw [evL, evL]; rfl
theorem evL_right (b : List (Int × Int × Int)) (y : Int × Int × Int) : evL [] (y :: b) = (none, some y) :: evL [] b := by
  rw [evL_nil_left, evL_nil_left]; rfl
theorem evL_lt (h : cBef x y = true) : evL (x :: a) (y :: b) = (some x, none) :: evL a (y :: b) := by rw [evL, if_pos h]
theorem evL_gt (h : cBef y x = true) : evL (x :: a) (y :: b) = (none, some y) :: evL (x :: a) b := by
  rw [evL, if_neg (by rw [cBef_asym h]; simp), if_pos h]
theorem evL_eq (h1 : cBef x y = false) (h2 : cBef y x = false) : evL (x :: a) (y :: b) = (some x, some y) :: evL a b := by
  rw [evL, if_neg (by rw [h1]; simp), if_neg (by rw [h2]; simp)]
end
def atSame (x y : Int × Int × Int) : Prop := x.1 = y.1 ∧ x.2.1 = y.2.1
theorem same_of_not {x y : Int × Int × Int} (h1 : cBef x y = false) (h2 : cBef y x = false) : atSame x y := by
  unfold cBef befP at *; unfold atSame; simp only [decide_eq_false_iff_not] at *; omega
theorem not_of_same {x y : Int × Int × Int} (h : atSame x y) : cBef x y = false ∧ cBef y x = false := by
  unfold cBef befP atSame at *; simp only [decide_eq_false_iff_not]; omega
theorem bef_not_same {x y : Int × Int × Int} (h : cBef x y = true) : ¬ atSame x y := fun e => by rw [(not_of_same e).1] at h; cases h
theorem same_comm {x y : Int × Int × Int} : atSame x y ↔ atSame y x := by unfold atSame; omega
def evOk (a b : List (Int × Int × Int)) : Option (Int × Int × Int) × Option (Int × Int × Int) → Prop
  | (some x, some y) => x ∈ a ∧ y ∈ b ∧ atSame x y
  | (some x, none) => x ∈ a ∧ ∀ y ∈ b, ¬ atSame x y
  | (none, some y) => y ∈ b ∧ ∀ x ∈ a, ¬ atSame x y
  | (none, none) => False
def evPos : Option (Int × Int × Int) × Option (Int × Int × Int) → Int × Int × Int
  | (some x, _) => x
  | (none, some y) => y
  | (none, none) => (0, 0, 0)
theorem ssc_cons {x : Int × Int × Int} {a : List (Int × Int × Int)} (h : SSC (x :: a)) : (∀ z ∈ a, cBef x z = true) ∧ SSC a := List.pairwise_cons.1 h
theorem evL_iff (a b : List (Int × Int × Int)) (ha : SSC a) (hb : SSC b) (e : Option (Int × Int × Int) × Option (Int × Int × Int)) : e ∈ evL a b ↔ evOk a b e := by
  induction a, b using evL.induct with
  | case1 b =>
    rw [evL_nil_left, List.mem_map]
    rcases e with ⟨_ | x, _ | y⟩ <;> simp [evOk]
  | case2 x a =>
    rw [evL]
    rw [List.mem_map]
    rcases e with ⟨_ | x', _ | y⟩ <;> simp [evOk]
  | case3 x a y b h ih =>
    obtain ⟨h1, h2⟩ := ssc_cons ha
    obtain ⟨h3, h4⟩ := ssc_cons hb
    rw [evL_lt h, List.mem_cons, ih h2 hb]
    have hx : ∀ z ∈ y :: b, ¬ atSame x z := fun z hz => by
      rcases List.mem_cons.1 hz with rfl | hm
      · exact bef_not_same h
      · exact bef_not_same (cBef_tr h (h3 z hm))
    rcases e with ⟨_ | x', _ | y'⟩
    · simp [evOk]
    · simp only [evOk, List.mem_cons, reduceCtorEq, Prod.mk.injEq, false_and, false_or, and_congr_right_iff]
      intro hy
      constructor
      · rintro hq z (rfl | hz)
        · exact hx y' (List.mem_cons.2 hy)
        · exact hq z hz
      · exact fun hq z hz => hq z (Or.inr hz)
    · simp only [evOk, Prod.mk.injEq, Option.some.injEq, and_true, List.mem_cons (a := x')]
      constructor
      · rintro (rfl | ⟨hm, hq⟩)
        · exact ⟨Or.inl rfl, hx⟩
        · exact ⟨Or.inr hm, hq⟩
      · rintro ⟨rfl | hm, hq⟩
        · exact Or.inl rfl
        · exact Or.inr ⟨hm, hq⟩
    · simp only [evOk, Prod.mk.injEq, reduceCtorEq, and_false, false_or, List.mem_cons (a := x')]
      constructor
      · rintro ⟨hm, hq⟩; exact ⟨Or.inr hm, hq⟩
      · rintro ⟨rfl | hm, hq, hs⟩
        · exact absurd hs (hx y' hq)
        · exact ⟨hm, hq, hs⟩
  | case4 x a y b h h' ih =>
    obtain ⟨h1, h2⟩ := ssc_cons ha
    obtain ⟨h3, h4⟩ := ssc_cons hb
    rw [evL_gt h', List.mem_cons, ih ha h4]
    have hy : ∀ z ∈ x :: a, ¬ atSame z y := fun z hz e => by
      rcases List.mem_cons.1 hz with rfl | hm
      · exact bef_not_same h' (same_comm.1 e)
      · exact bef_not_same (cBef_tr h' (h1 z hm)) (same_comm.1 e)
    rcases e with ⟨_ | x', _ | y'⟩
    · simp [evOk]
    · simp only [evOk, Prod.mk.injEq, Option.some.injEq, true_and, List.mem_cons (a := y')]
      constructor
      · rintro (rfl | ⟨hm, hq⟩)
        · exact ⟨Or.inl rfl, hy⟩
        · exact ⟨Or.inr hm, hq⟩
      · rintro ⟨rfl | hm, hq⟩
        · exact Or.inl rfl
        · exact Or.inr ⟨hm, hq⟩
    · simp only [evOk, Prod.mk.injEq, reduceCtorEq, false_and, false_or, and_congr_right_iff]
      intro hx
      constructor
      · intro hq z hz
        rcases List.mem_cons.1 hz with rfl | hm
        · exact hy x' hx
        · exact hq z hm
      · exact fun hq z hz => hq z (List.mem_cons.2 (Or.inr hz))
    · simp only [evOk, Prod.mk.injEq, reduceCtorEq, false_and, false_or, and_congr_right_iff, List.mem_cons (a := y')]
      intro hx
      constructor
      · rintro ⟨hm, hs⟩; exact ⟨Or.inr hm, hs⟩
      · rintro ⟨rfl | hm, hs⟩
        · exact absurd hs (hy x' hx)
        · exact ⟨hm, hs⟩
  | case5 x a y b h h' ih =>
    obtain ⟨h1, h2⟩ := ssc_cons ha
    obtain ⟨h3, h4⟩ := ssc_cons hb
    have h0 : cBef x y = false := by simpa using h
    have h0' : cBef y x = false := by simpa using h'
    have hs0 := same_of_not h0 h0'
    rw [evL_eq h0 h0', List.mem_cons, ih h2 h4]
    have hx : ∀ z ∈ b, ¬ atSame x z := fun z hz e => by
      have := bef_not_same (h3 z hz)
      unfold atSame at *; omega
    have hy : ∀ z ∈ a, ¬ atSame z y := fun z hz e => by
      have := bef_not_same (h1 z hz)
      unfold atSame at *; omega
    rcases e with ⟨_ | x', _ | y'⟩
    · simp [evOk]
    · simp only [evOk, Prod.mk.injEq, reduceCtorEq, false_and, false_or, List.mem_cons]
      constructor
      · rintro ⟨hm, hq⟩
        refine ⟨Or.inr hm, fun z hz => ?_⟩
        rcases hz with rfl | hz
        · exact hx y' hm
        · exact hq z hz
      · rintro ⟨rfl | hm, hq⟩
        · exact absurd hs0 (hq x (Or.inl rfl))
        · exact ⟨hm, fun z hz => hq z (Or.inr hz)⟩
    · simp only [evOk, Prod.mk.injEq, reduceCtorEq, and_false, false_or, List.mem_cons]
      constructor
      · rintro ⟨hm, hq⟩
        refine ⟨Or.inr hm, fun z hz => ?_⟩
        rcases hz with rfl | hz
        · exact hy x' hm
        · exact hq z hz
      · rintro ⟨rfl | hm, hq⟩
        · exact absurd hs0 (hq y (Or.inl rfl))
        · exact ⟨hm, fun z hz => hq z (Or.inr hz)⟩
    · simp only [evOk, Prod.mk.injEq, Option.some.injEq, List.mem_cons]
      constructor
      · rintro (⟨rfl, rfl⟩ | ⟨hm, hq, hs⟩)
        · exact ⟨Or.inl rfl, Or.inl rfl, hs0⟩
        · exact ⟨Or.inr hm, Or.inr hq, hs⟩
      · rintro ⟨rfl | hm, rfl | hq, hs⟩
        · exact Or.inl ⟨rfl, rfl⟩
        · exact absurd hs (hx y' hq)
        · exact absurd hs (hy x' hm)
        · exact Or.inr ⟨hm, hq, hs⟩
theorem evL_sorted (a b : List (Int × Int × Int)) (ha : SSC a) (hb : SSC b) : (evL a b).Pairwise fun e f => cBef (evPos e) (evPos f) = true := by
  have key : ∀ (a b : List (Int × Int × Int)) (z : Int × Int × Int), SSC a → SSC b → (∀ x ∈ a, cBef z x = true) → (∀ y ∈ b, cBef z y = true) → ∀ e ∈ evL a b, cBef z (evPos e) = true := fun a b z ha hb h1 h2 e he => by
    have := (evL_iff a b ha hb e).1 he
    rcases e with ⟨_ | x', _ | y'⟩
    · exact this.elim
    · exact h2 _ this.1
    · exact h1 _ this.1
    · exact h1 _ this.1
  have bs : ∀ {x y z : Int × Int × Int}, atSame x y → cBef y z = true → cBef x z = true := fun {x y z} e h => by
    unfold cBef befP atSame at *; simp only [decide_eq_true_eq] at *; omega
  induction a, b using evL.induct with
  | case1 b =>
    rw [evL_nil_left, List.pairwise_map]; exact hb
  | case2 x a =>
    rw [evL, List.pairwise_map]; exact ha
  | case3 x a y b h ih =>
    obtain ⟨h1, h2⟩ := ssc_cons ha
    rw [evL_lt h]
    refine List.pairwise_cons.2 ⟨key _ _ _ h2 hb h1 fun z hz => ?_, ih h2 hb⟩
    rcases List.mem_cons.1 hz with rfl | hm
    · exact h
    · exact cBef_tr h ((ssc_cons hb).1 z hm)
  | case4 x a y b h h' ih =>
    obtain ⟨h3, h4⟩ := ssc_cons hb
    rw [evL_gt h']
    refine List.pairwise_cons.2 ⟨key _ _ _ ha h4 (fun z hz => ?_) h3, ih ha h4⟩
    rcases List.mem_cons.1 hz with rfl | hm
    · exact h'
    · exact cBef_tr h' ((ssc_cons ha).1 z hm)
  | case5 x a y b h h' ih =>
    obtain ⟨h1, h2⟩ := ssc_cons ha
    obtain ⟨h3, h4⟩ := ssc_cons hb
    have h0 : cBef x y = false := by simpa using h
    have h0' : cBef y x = false := by simpa using h'
    rw [evL_eq h0 h0']
    exact List.pairwise_cons.2 ⟨key _ _ _ h2 h4 h1 fun z hz => bs (same_of_not h0 h0') (h3 z hz), ih h2 h4⟩
def visL : Nat → Option (Int × Int × Int) × Option (Int × Int × Int) → List (Int × Int × Int)
  | 0, (some x, _) => [x]
  | 0, (none, some y) => [y]
  | 1, (some x, some _) => [x]
  | 2, (some x, none) => [x]
  | 3, (some x, none) => [x]
  | 3, (none, some y) => [y]
  | _, _ => []
def resL (k : Nat) (a b : List (Int × Int × Int)) : List (Int × Int × Int) := (evL a b).flatMap (visL k)
theorem visL_pos {k : Nat} {e : Option (Int × Int × Int) × Option (Int × Int × Int)} {z : Int × Int × Int} (h : z ∈ visL k e) : z = evPos e := by
  rcases k with _ | _ | _ | _ | k <;> rcases e with ⟨_ | x, _ | y⟩ <;> simp [visL] at h <;> rw [h] <;> rfl
theorem visL_one (k : Nat) (e : Option (Int × Int × Int) × Option (Int × Int × Int)) : (visL k e).length ≤ 1 := by
  rcases k with _ | _ | _ | _ | k <;> rcases e with ⟨_ | x, _ | y⟩ <;> simp [visL]
theorem ssc_flatMap (k : Nat) : ∀ (l : List (Option (Int × Int × Int) × Option (Int × Int × Int))), l.Pairwise (fun e f => cBef (evPos e) (evPos f) = true) → SSC (l.flatMap (visL k))
  | [], _ => by simp [SSC]
  | e :: l, h => by
    obtain ⟨h1, h2⟩ := List.pairwise_cons.1 h
    rw [List.flatMap_cons]
    refine List.pairwise_append.2 ⟨?_, ssc_flatMap k l h2, fun x hx y hy => ?_⟩
    · have := visL_one k e
      match hv : visL k e with
      | [] => exact List.Pairwise.nil
      | [z] => simp
      | z :: z' :: r => rw [hv] at this; simp at this
    · obtain ⟨f, hf, hy⟩ := List.mem_flatMap.1 hy
      rw [visL_pos hx, visL_pos hy]
      exact h1 f hf
theorem ssc_res {a b : List (Int × Int × Int)} (k : Nat) (ha : SSC a) (hb : SSC b) : SSC (resL k a b) := ssc_flatMap k _ (evL_sorted a b ha hb)
section
variable {a b : List (Int × Int × Int)} {z : Int × Int × Int}
theorem mem_res1 (ha : SSC a) (hb : SSC b) : z ∈ resL 1 a b ↔ z ∈ a ∧ ∃ y ∈ b, atSame z y := by
  unfold resL
  rw [List.mem_flatMap]
  constructor
  · rintro ⟨⟨_ | x, _ | y⟩, he, hz⟩ <;> have h := (evL_iff a b ha hb _).1 he <;> simp [visL] at hz
    subst hz; exact ⟨h.1, y, h.2.1, h.2.2⟩
  · rintro ⟨h, y, hy, e⟩
    exact ⟨(some z, some y), (evL_iff a b ha hb _).2 ⟨h, hy, e⟩, by simp [visL]⟩
theorem mem_res2 (ha : SSC a) (hb : SSC b) : z ∈ resL 2 a b ↔ z ∈ a ∧ ∀ y ∈ b, ¬ atSame z y := by
  unfold resL
  rw [List.mem_flatMap]
  constructor
  · rintro ⟨⟨_ | x, _ | y⟩, he, hz⟩ <;> have h := (evL_iff a b ha hb _).1 he <;> simp [visL] at hz
    subst hz; exact h
  · intro h
    exact ⟨(some z, none), (evL_iff a b ha hb _).2 h, by simp [visL]⟩
end
end Go.Proofs.YtellglbmbocgkaaGreatDoor
end
section
namespace Go.Proofs.YtellglbmbocgkaaGreatDoor
open Go Go.RowKit
section
variable {ax ay aw ah bx by' bw bh px py : Int}
end
theorem loY_le : ∀ (l : List (Int × Int)) (d m : Int), (∀ p, p ∈ l → m ≤ p.2) → m ≤ d → m ≤ loY l d
  | [], d, m, _, h => h
  | p :: l, d, m, hp, h => loY_le l (min d p.2) m (fun q hq => hp q (by simp [hq])) (by have := hp p (by simp); omega)
theorem hiY_le : ∀ (l : List (Int × Int)) (d m : Int), (∀ p, p ∈ l → p.2 ≤ m) → d ≤ m → hiY l d ≤ m
  | [], d, m, _, h => h
  | p :: l, d, m, hp, h => hiY_le l (max d p.2) m (fun q hq => hp q (by simp [hq])) (by have := hp p (by simp); omega)
theorem loY_low : ∀ (l : List (Int × Int)) (d : Int), loY l d ≤ d ∧ (∀ p, p ∈ l → loY l d ≤ p.2)
  | [], d => ⟨Int.le_refl _, fun p h => by simp at h⟩
  | q :: l, d => by
    have ih := loY_low l (min d q.2)
    refine ⟨by have := ih.1; show loY l (min d q.2) ≤ d; omega, fun p hp => ?_⟩
    rcases List.mem_cons.1 hp with rfl | h
    · have := ih.1; show loY l (min d p.2) ≤ p.2; omega
    · exact ih.2 p h
theorem hiY_high : ∀ (l : List (Int × Int)) (d : Int), d ≤ hiY l d ∧ (∀ p, p ∈ l → p.2 ≤ hiY l d)
  | [], d => ⟨Int.le_refl _, fun p h => by simp at h⟩
  | q :: l, d => by
    have ih := hiY_high l (max d q.2)
    refine ⟨by have := ih.1; show d ≤ hiY l (max d q.2); omega, fun p hp => ?_⟩
    rcases List.mem_cons.1 hp with rfl | h
    · have := ih.1; show p.2 ≤ hiY l (max d p.2); omega
    · exact ih.2 p h
end Go.Proofs.YtellglbmbocgkaaGreatDoor
end
section
namespace Go.Proofs.YtellglbmbocgkaaGreatDoor
open Go Go.RowKit
def pickR (a b : List (Int × Int × Int)) (q : Bool) : List (Int × Int × Int) := a.filter fun c => (getC b c.1 c.2.1 != 0) == q
theorem getC_ne {b : List (Int × Int × Int)} {x y : Int} (h : rightC b = true) : (getC b x y != 0) = true ↔ ∃ z ∈ b, z.1 = x ∧ z.2.1 = y := by
  rw [bne_iff_ne]
  constructor
  · intro hn
    apply Classical.byContradiction
    intro hno
    exact hn (getC_not fun c hc e => hno ⟨c, hc, e⟩)
  · rintro ⟨⟨u, v, s⟩, hz, rfl, rfl⟩
    rw [getC_mem (rightC_sorted h) hz]
    obtain ⟨i, hi⟩ := List.getElem?_of_mem hz
    have := (rightC_elem h hi).2
    omega
theorem mem_pickR {a b : List (Int × Int × Int)} {z : Int × Int × Int} (hb : rightC b = true) : (z ∈ pickR a b true ↔ z ∈ a ∧ ∃ y ∈ b, atSame z y) ∧ (z ∈ pickR a b false ↔ z ∈ a ∧ ∀ y ∈ b, ¬ atSame z y) := by
  have hk : (∃ y ∈ b, atSame z y) ↔ (getC b z.1 z.2.1 != 0) = true := by
    rw [getC_ne hb]
    constructor
    · rintro ⟨y, hy, e⟩; exact ⟨y, hy, e.1.symm, e.2.symm⟩
    · rintro ⟨y, hy, e⟩; exact ⟨y, hy, e.1.symm, e.2.symm⟩
  unfold pickR
  rw [List.mem_filter, List.mem_filter, hk]
  refine ⟨by simp, ?_⟩
  have hk2 : (∀ y ∈ b, ¬ atSame z y) ↔ ¬ (getC b z.1 z.2.1 != 0) = true := by rw [← hk]; exact ⟨fun h ⟨y, hy, e⟩ => h y hy e, fun h y hy e => h ⟨y, hy, e⟩⟩
  rw [hk2]
  simp
theorem ssc_pickR {a b : List (Int × Int × Int)} (q : Bool) (ha : SSC a) : SSC (pickR a b q) := by
  unfold pickR; exact ha.sublist List.filter_sublist
theorem pick_res {a b : List (Int × Int × Int)} (ha : rightC a = true) (hb : rightC b = true) : pickR a b true = resL 1 a b ∧ pickR a b false = resL 2 a b := by
  have sa := rightC_sorted ha
  have sb := rightC_sorted hb
  exact ⟨ssc_unique _ _ (ssc_pickR _ sa) (ssc_res 1 sa sb) fun z => by rw [(mem_pickR hb).1, mem_res1 sa sb], ssc_unique _ _ (ssc_pickR _ sa) (ssc_res 2 sa sb) fun z => by rw [(mem_pickR hb).2, mem_res2 sa sb]⟩
theorem srt_of {m : List (Int × Int × Int)} (hn : (m.map posD).Nodup) : SSC (srtC m) := ssc_iff.2 ⟨srtC_wc m, ((srtC_perm m).map posD).nodup_iff.2 hn⟩
theorem srt_eq {m r : List (Int × Int × Int)} (hn : (m.map posD).Nodup) (hr : SSC r) (he : ∀ z, z ∈ r ↔ z ∈ m) : srtC m = r :=
  ssc_unique _ _ (srt_of hn) hr fun z => by rw [(srtC_perm m).mem_iff, he]
def okCells (m : List (Int × Int × Int)) : Prop := ∀ c ∈ m, Pt c.1 c.2.1 ∧ 1 ≤ c.2.2 ∧ c.2.2 ≤ 7
theorem okCells_right {l : List (Int × Int × Int)} (h : rightC l = true) : okCells l := fun c hc => by
  obtain ⟨i, hi⟩ := List.getElem?_of_mem hc
  obtain ⟨a, b, s⟩ := c
  exact rightC_elem h hi
theorem frBad_ok' {x y s : Int} (h : validB x y = true) (h1 : 0 ≤ s) (h2 : s ≤ 7) : frBad (x, y, s) = 0 := by unfold frBad; rw [if_pos h, if_pos ⟨h1, h2⟩]
theorem frL_cells {m : List (Int × Int × Int)} (hv : okCells m) (hn : (m.map posD).Nodup) (hl : m.length ≤ 5000) : frE m = 0 ∧ frL m = srtC m := by
  have hz : nz m = m := List.filter_eq_self.2 fun c hc => by unfold nzC; exact decide_eq_true (by have := hv c hc; omega)
  have hf : frFirst m = 0 := by
    refine frFirst_good fun i d hd => ?_
    have := hv d (List.mem_of_getElem? hd)
    obtain ⟨x, y, s⟩ := d
    exact frBad_ok' (validB_iff.2 this.1) (by have := this.2.1; simp only at this; omega) this.2.2
  have he : frE m = 0 := frE_ok hf (by rw [hz]; exact ssB_iff.2 (srt_of hn)) (by rw [hz]; exact hl)
  exact ⟨he, by rw [frL_ok he, hz]⟩
theorem nodup_pos {l : List (Int × Int × Int)} (h : SSC l) : (l.map posD).Nodup := (ssc_iff.1 h).2
theorem posD_same {x y : Int × Int × Int} : posD x = posD y ↔ atSame x y := by
  unfold posD atSame; rw [Prod.mk.injEq]
section
variable {a b : List (Int × Int × Int)}
def pkL (k : Nat) (a b : List (Int × Int × Int)) : List (Int × Int × Int) := if rightC a = true ∧ rightC b = true then resL k a b else []
theorem pkL_no (k : Nat) (h : rightC a = false ∨ rightC b = false) : pkL k a b = [] := by
  unfold pkL; rw [if_neg]; rintro ⟨h1, h2⟩; rcases h with h | h
  · rw [h] at h1; cases h1
  · rw [h] at h2; cases h2
theorem pkL_yes (k : Nat) (ha : rightC a = true) (hb : rightC b = true) : pkL k a b = resL k a b := by unfold pkL; rw [if_pos ⟨ha, hb⟩]
end
theorem evL_len (k : Nat) : ∀ (a b : List (Int × Int × Int)), (resL k a b).length ≤ a.length + b.length := by
  intro a b
  unfold resL
  induction a, b using evL.induct with
  | case1 b =>
    rw [evL_nil_left]
    induction b with
    | nil => simp
    | cons y b ih =>
      rw [List.map_cons, List.flatMap_cons, List.length_append, List.length_cons]
      have := visL_one k (none, some y)
      omega
  | case2 x a =>
    rw [evL]
    generalize x :: a = l
    induction l with
    | nil => simp
    | cons y b ih =>
      rw [List.map_cons, List.flatMap_cons, List.length_append, List.length_cons]
      have := visL_one k (some y, none)
      omega
  | case3 x a y b h ih =>
    rw [evL_lt h, List.flatMap_cons, List.length_append]
    have := visL_one k (some x, none)
    simp only [List.length_cons] at *; omega
  | case4 x a y b h h' ih =>
    rw [evL_gt h', List.flatMap_cons, List.length_append]
    have := visL_one k (none, some y)
    simp only [List.length_cons] at *; omega
  | case5 x a y b h h' ih =>
    rw [evL_eq (by simpa using h) (by simpa using h'), List.flatMap_cons, List.length_append]
    have := visL_one k (some x, some y)
    simp only [List.length_cons] at *; omega
theorem res_len1 {a b : List (Int × Int × Int)} {k : Nat} (hk : k = 1 ∨ k = 2) (ha : rightC a = true) (hb : rightC b = true) : (resL k a b).length ≤ a.length := by
  rcases hk with rfl | rfl
  · rw [← (pick_res ha hb).1]; exact List.length_filter_le _ _
  · rw [← (pick_res ha hb).2]; exact List.length_filter_le _ _
section
variable {a b : List (Int × Int × Int)}
end
end Go.Proofs.YtellglbmbocgkaaGreatDoor
end
section
namespace Go.Proofs.YtellglbmbocgkaaGreatDoor
open Go Go.RowKit
def nrD (d : Int) (a b : Int × Int × Int) : Bool := decide (a.1 - b.1 ≤ d ∧ b.1 - a.1 ≤ d ∧ a.2.1 - b.2.1 ≤ d ∧ b.2.1 - a.2.1 ≤ d)
theorem nrD_comm (d : Int) (a b : Int × Int × Int) : nrD d a b = nrD d b a := by
  unfold nrD; exact decide_eq_decide.2 (by omega)
inductive Rch (l : List (Int × Int × Int)) (d : Int) : Nat → Nat → Prop
  | refl {i : Nat} : i < l.length → Rch l d i i
  | step {i j k : Nat} {a b : Int × Int × Int} : Rch l d i j → l[j]? = some a → l[k]? = some b → nrD d a b = true → Rch l d i k
section
variable {l : List (Int × Int × Int)} {d : Int} {i j k : Nat}
theorem lt_of_some {α : Type} {l : List α} {k : Nat} {b : α} (h : l[k]? = some b) : k < l.length := (List.getElem?_eq_some_iff.1 h).1
theorem Rch.right (h : Rch l d i j) : j < l.length := by
  cases h with
  | refl h => exact h
  | step _ _ h _ => exact lt_of_some h
theorem Rch.left (h : Rch l d i j) : i < l.length := by
  induction h with
  | refl h => exact h
  | step _ _ _ _ ih => exact ih
theorem Rch.trans (h : Rch l d i j) (g : Rch l d j k) : Rch l d i k := by
  induction g with
  | refl _ => exact h
  | step _ h1 h2 h3 ih => exact .step ih h1 h2 h3
theorem Rch.one {a b : Int × Int × Int} (ha : l[i]? = some a) (hb : l[j]? = some b) (h : nrD d a b = true) : Rch l d i j := .step (.refl (lt_of_some ha)) ha hb h
theorem Rch.symm (h : Rch l d i j) : Rch l d j i := by
  induction h with
  | refl h => exact .refl h
  | step _ h1 h2 h3 ih => exact (Rch.one h2 h1 (by rw [nrD_comm]; exact h3)).trans ih
end
end Go.Proofs.YtellglbmbocgkaaGreatDoor
end
section
namespace Go.Proofs.YtellglbmbocgkaaGreatDoor
open Go Go.RowKit
/-- An element k of a node of level lv at index i is in order. -/
def nxOk (st : Int) (N : List (Int × List Int)) (lv : Int) (i : Nat) (k : Int) : Bool :=
  decide (0 ≤ k) && (decide (lv ≠ 1) || decide (k < st)) && (decide (lv ≤ 1) || (decide (k < i) && decide (((N[k.toNat]?).map (·.1)).getD 0 = lv - 1)))
/-- The node at index i is in order. -/
def ndOk (st : Int) (h : Nat) (N : List (Int × List Int)) (i : Nat) : Bool := match N[i]? with
  | none => true
  | some x => decide (1 ≤ x.1 ∧ x.1 ≤ h ∧ (x.2.length : Int) = st) && x.2.all (nxOk st N x.1 i)
def lastLv (N : List (Int × List Int)) : Int := ((N[N.length - 1]?).map (·.1)).getD 0
def trR (st : Int) (H : List (Int × Int)) (N : List (Int × List Int)) : Bool :=
  decide (2 ≤ st ∧ st ≤ 8) && rightL H && decide (1 ≤ N.length ∧ N.length ≤ 4096) && decide (lastLv N = H.length) && (List.range N.length).all (ndOk st H.length N)
/-- On to the node or state that state s leads to from node k. -/
def stepV (N : List (Int × List Int)) (k s : Int) : Int := ((N[k.toNat]?).bind fun x => x.2[s.toNat]?).getD 0
def valK (N : List (Int × List Int)) (ins : List Int) (j : Nat) : Int := (ins.take j).foldl (stepV N) ((N.length : Int) - 1)
def valT (N : List (Int × List Int)) (ins : List Int) : Int := ins.foldl (stepV N) ((N.length : Int) - 1)
/-- A neighbourhood of zeros leads to zero. -/
def trQ (st : Int) (H : List (Int × Int)) (N : List (Int × List Int)) : Bool := trR st H N && decide (valT N (List.replicate H.length 0) = 0)
section
variable {st : Int} {H : List (Int × Int)} {N : List (Int × List Int)} {n : Nat}
theorem trR_states (h : st < 2 ∨ 8 < st) : trR st H N = false := by
  unfold trR; rw [decide_eq_false (by omega)]; rfl
theorem trR_hood (h : rightL H = false) : trR st H N = false := by
  unfold trR; rw [h]; simp
theorem trR_size (hl : N.length = n) (h : n < 1 ∨ 4096 < n) : trR st H N = false := by
  unfold trR; rw [hl, decide_eq_false (show ¬(1 ≤ n ∧ n ≤ 4096) by omega)]; simp
theorem trR_last {x : Int × List Int} (hl : N.length = n) (hx : N[n - 1]? = some x) {m : Nat} (hm : H.length = m) (h : x.1 ≠ m) : trR st H N = false := by
  unfold trR lastLv
  rw [hl, hx, hm, decide_eq_false (show ¬((Option.map (·.1) (some x)).getD 0 = (m : Int)) from h)]; simp
theorem trR_node {i : Nat} (hi : i < N.length) (h : ndOk st H.length N i = false) : trR st H N = false := by
  unfold trR
  have : (List.range N.length).all (ndOk st H.length N) = false := by
    rw [List.all_eq_false]; exact ⟨i, by simpa using hi, by rw [h]; simp⟩
  rw [this]; simp
theorem trR_all {x : Int × List Int} (h1 : 2 ≤ st ∧ st ≤ 8) (h2 : rightL H = true) (hl : N.length = n) (h3 : 1 ≤ n ∧ n ≤ 4096) (hx : N[n - 1]? = some x) {m : Nat} (hm : H.length = m) (h4 : x.1 = m) (h5 : ∀ i, i < n → ndOk st m N i = true) : trR st H N = true := by
  unfold trR lastLv
  rw [hl, hx, hm, h2, decide_eq_true h1, decide_eq_true h3, decide_eq_true (show ((Option.map (·.1) (some x)).getD 0 = (m : Int)) from h4)]
  simp only [Bool.true_and, List.all_eq_true]
  intro i hi
  exact h5 i (by simpa using hi)
theorem ndOk_head {m i : Nat} {x : Int × List Int} (hx : N[i]? = some x) (h : x.1 < 1 ∨ (m : Int) < x.1 ∨ (x.2.length : Int) ≠ st) : ndOk st m N i = false := by
  unfold ndOk; rw [hx]; simp only; rw [decide_eq_false (by omega)]; rfl
theorem ndOk_elem {m i j : Nat} {x : Int × List Int} {k : Int} (hx : N[i]? = some x) (hk : x.2[j]? = some k) (h : nxOk st N x.1 i k = false) : ndOk st m N i = false := by
  unfold ndOk; rw [hx]; simp only
  have : x.2.all (nxOk st N x.1 i) = false := by
    rw [List.all_eq_false]; exact ⟨k, List.mem_of_getElem? hk, by rw [h]; simp⟩
  rw [this]; simp
theorem ndOk_all {m i : Nat} {x : Int × List Int} (hx : N[i]? = some x) (h1 : 1 ≤ x.1) (h2 : x.1 ≤ (m : Int)) (h3 : (x.2.length : Int) = st) (h : ∀ (j : Nat) k, j < x.2.length → x.2[j]? = some k → nxOk st N x.1 i k = true) : ndOk st m N i = true := by
  unfold ndOk; rw [hx]; simp only
  rw [decide_eq_true ⟨h1, h2, h3⟩, Bool.true_and, List.all_eq_true]
  intro k hk
  obtain ⟨j, hj, rfl⟩ := List.getElem_of_mem hk
  exact h j _ hj (List.getElem?_eq_getElem hj)
theorem nxOk_neg {lv k : Int} {i : Nat} (h : k < 0) : nxOk st N lv i k = false := by
  unfold nxOk; rw [decide_eq_false (show ¬ 0 ≤ k by omega)]; rfl
theorem nxOk_leaf {k : Int} {i : Nat} (h : 0 ≤ k) : nxOk st N 1 i k = decide (k < st) := by
  unfold nxOk; rw [decide_eq_true h]; simp
theorem nxOk_far {lv k : Int} {i : Nat} (hv : 1 < lv) (h : (i : Int) ≤ k) : nxOk st N lv i k = false := by
  unfold nxOk; rw [decide_eq_false (show ¬ lv ≤ 1 by omega), decide_eq_false (show ¬ k < i by omega)]; simp
theorem nxOk_node {lv k : Int} {i : Nat} {y : Int × List Int} (hv : 1 < lv) (h0 : 0 ≤ k) (h : k < i) (hy : N[k.toNat]? = some y) : nxOk st N lv i k = decide (y.1 = lv - 1) := by
  unfold nxOk; rw [decide_eq_false (show ¬ lv ≤ 1 by omega), decide_eq_true h, decide_eq_true h0, decide_eq_true (show lv ≠ 1 by omega), hy]; simp
theorem trR_parts (h : trR st H N = true) : (2 ≤ st ∧ st ≤ 8) ∧ rightL H = true ∧ (1 ≤ N.length ∧ N.length ≤ 4096) ∧ lastLv N = H.length ∧ ∀ i, i < N.length → ndOk st H.length N i = true := by
  unfold trR at h
  simp only [Bool.and_eq_true, decide_eq_true_eq, List.all_eq_true] at h
  obtain ⟨⟨⟨⟨h1, h2⟩, h3⟩, h4⟩, h5⟩ := h
  exact ⟨h1, h2, h3, h4, fun i hi => h5 i (by simpa using hi)⟩
theorem ndOk_parts {m i : Nat} {x : Int × List Int} (h : ndOk st m N i = true) (hx : N[i]? = some x) : 1 ≤ x.1 ∧ x.1 ≤ (m : Int) ∧ (x.2.length : Int) = st ∧ ∀ (j : Nat) k, x.2[j]? = some k → nxOk st N x.1 i k = true := by
  unfold ndOk at h
  rw [hx] at h
  simp only [Bool.and_eq_true, decide_eq_true_eq, List.all_eq_true] at h
  exact ⟨h.1.1, h.1.2.1, h.1.2.2, fun j k hk => h.2 k (List.mem_of_getElem? hk)⟩
theorem valK_step {ins : List Int} {j : Nat} {s : Int} (h : ins[j]? = some s) : valK N ins (j + 1) = stepV N (valK N ins j) s := by
  unfold valK; rw [List.take_add_one, h, List.foldl_append]; rfl
theorem valK_all {ins : List Int} (h : ins.length = n) : valK N ins n = valT N ins := by
  unfold valK valT; rw [List.take_of_length_le (by omega)]
theorem stepV_at {k s t : Int} {x : Int × List Int} (hx : N[k.toNat]? = some x) (ht : x.2[s.toNat]? = some t) : stepV N k s = t := by
  unfold stepV; rw [hx]; simp only [Option.bind_some]; rw [ht]; rfl
/-- What the walk through a valid tree meets. -/
theorem valK_inv (h : trR st H N = true) {ins : List Int} (hl : ins.length = H.length) (hs : ∀ s ∈ ins, 0 ≤ s ∧ s < st) : ∀ j, j ≤ ins.length → 0 ≤ valK N ins j ∧ (j < ins.length → ∃ x, N[(valK N ins j).toNat]? = some x ∧ valK N ins j < N.length ∧ x.1 = (ins.length : Int) - j ∧ (x.2.length : Int) = st) ∧ (j = ins.length → valK N ins j < st)
  | 0, h0 => by
    obtain ⟨h1, h2, h3, h4, h5⟩ := trR_parts h
    have e : valK N ins 0 = (N.length : Int) - 1 := rfl
    have hh : 1 ≤ H.length := by
      unfold rightL at h2
      rw [Bool.and_eq_true, decide_eq_true_eq] at h2
      exact h2.1.1
    have hx : N[N.length - 1]? = some N[N.length - 1] := List.getElem?_eq_getElem (by omega)
    have hn := ndOk_parts (h5 (N.length - 1) (by omega)) hx
    refine ⟨by rw [e]; omega, fun _ => ⟨N[N.length - 1], ?_, by rw [e]; omega, ?_, hn.2.2.1⟩, fun h => by omega⟩
    · rw [e, show ((N.length : Int) - 1).toNat = N.length - 1 by omega]; exact hx
    · unfold lastLv at h4
      rw [hx] at h4
      simp only [Option.map_some, Option.getD_some] at h4
      omega
  | j + 1, hj => by
    obtain ⟨h1, h2, h3, h4, h5⟩ := trR_parts h
    obtain ⟨i1, i2, _⟩ := valK_inv h hl hs j (by omega)
    obtain ⟨x, hx, hk, hlv, hlen⟩ := i2 (by omega)
    have hsj : ins[j]? = some ins[j] := List.getElem?_eq_getElem (by omega)
    obtain ⟨s0, s1⟩ := hs ins[j] (List.getElem_mem _)
    have hlt : (ins[j]).toNat < x.2.length := by omega
    have ht : x.2[(ins[j]).toNat]? = some x.2[(ins[j]).toNat] := List.getElem?_eq_getElem hlt
    have hnd := ndOk_parts (h5 (valK N ins j).toNat (by omega)) hx
    have hok := hnd.2.2.2 _ _ ht
    rw [valK_step hsj, stepV_at hx ht]
    generalize x.2[(ins[j]).toNat] = t at hok
    have t0 : 0 ≤ t := by
      rcases Int.lt_or_le t 0 with hn | hn
      · rw [nxOk_neg hn] at hok; cases hok
      · exact hn
    refine ⟨t0, fun hjl => ?_, fun hjl => ?_⟩
    · have hv : 1 < x.1 := by omega
      have hti : t < ((valK N ins j).toNat : Int) := by
        rcases Int.lt_or_le t ((valK N ins j).toNat : Int) with hn | hn
        · exact hn
        · rw [nxOk_far hv hn] at hok; cases hok
      have hy : N[t.toNat]? = some (N[t.toNat]'(by omega)) := List.getElem?_eq_getElem (by omega)
      rw [nxOk_node hv t0 hti hy] at hok
      have hyl := of_decide_eq_true hok
      have hnd2 := ndOk_parts (h5 t.toNat (by omega)) hy
      exact ⟨_, hy, by omega, by omega, hnd2.2.2.1⟩
    · have hv : x.1 = 1 := by omega
      rw [hv, nxOk_leaf t0] at hok
      exact of_decide_eq_true hok
theorem valT_range (h : trR st H N = true) {ins : List Int} (hl : ins.length = H.length) (hs : ∀ s ∈ ins, 0 ≤ s ∧ s < st) : 0 ≤ valT N ins ∧ valT N ins < st := by
  obtain ⟨h1, _, h2⟩ := valK_inv h hl hs ins.length (Nat.le_refl _)
  rw [valK_all rfl] at h1 h2
  exact ⟨h1, h2 rfl⟩
end
end Go.Proofs.YtellglbmbocgkaaGreatDoor
end
section
namespace Go.Proofs.YtellglbmbocgkaaGreatDoor
open Go Go.RowKit
/-- The new state at a position. -/
def nxT (H : List (Int × Int)) (N : List (Int × List Int)) (p : List (Int × Int × Int)) (x y : Int) : Int := valT N (H.map fun o => getC p (x + o.1) (y + o.2))
/-- The positions whose neighbourhoods meet the pattern. -/
def candL (H : List (Int × Int)) (p : List (Int × Int × Int)) : List (Int × Int) := p.flatMap fun c => H.map fun o => (c.1 - o.1, c.2.1 - o.2)
def dd : List (Int × Int) → List (Int × Int)
  | [] => []
  | a :: l => a :: (dd l).filter fun q => decide (q ≠ a)
theorem dd_mem {q : Int × Int} : ∀ {l : List (Int × Int)}, q ∈ dd l ↔ q ∈ l
  | [] => Iff.rfl
  | a :: l => by
    unfold dd
    rw [List.mem_cons, List.mem_cons, List.mem_filter, dd_mem (l := l)]
    by_cases h : q = a
    · simp [h]
    · simp [h]
theorem dd_nodup : ∀ l : List (Int × Int), (dd l).Nodup
  | [] => List.nodup_nil
  | a :: l => by
    unfold dd
    refine List.nodup_cons.2 ⟨fun h => ?_, (dd_nodup l).filter _⟩
    have := (List.mem_filter.1 h).2
    simp at this
def genR (H : List (Int × Int)) (N : List (Int × List Int)) (p : List (Int × Int × Int)) : List (Int × Int × Int) := (dd (candL H p)).filterMap fun q => if nxT H N p q.1 q.2 = 0 then none else some (q.1, q.2, nxT H N p q.1 q.2)
/-- A list of the cells of the next generation that are not 0, in any order. -/
def IsGen (H : List (Int × Int)) (N : List (Int × List Int)) (p l : List (Int × Int × Int)) : Prop := (l.map posD).Nodup ∧ ∀ x y s, (x, y, s) ∈ l ↔ s = nxT H N p x y ∧ s ≠ 0
/-- The same, of some positions only. -/
def GenC (cand : List (Int × Int)) (H : List (Int × Int)) (N : List (Int × List Int)) (p l : List (Int × Int × Int)) : Prop := (l.map posD).Nodup ∧ ∀ x y s, (x, y, s) ∈ l ↔ (x, y) ∈ cand ∧ s = nxT H N p x y ∧ s ≠ 0
/-- The rule is quiet and the pattern fits it. -/
structure FitsR (st : Int) (H : List (Int × Int)) (N : List (Int × List Int)) (p : List (Int × Int × Int)) : Prop where
  rule : trQ st H N = true
  pat : rightC p = true
  top : ∀ c ∈ p, c.2.2 < st
def plD (c : Int × Int × Int) : Bool := validB c.1 c.2.1
def stE (H : List (Int × Int)) (N : List (Int × List Int)) (p : List (Int × Int × Int)) : Int := if (genR H N p).all plD = true then (if 5000 < (genR H N p).length then 6 else 0) else 5
def stL (H : List (Int × Int)) (N : List (Int × List Int)) (p : List (Int × Int × Int)) : List (Int × Int × Int) := if stE H N p = 0 then srtC (genR H N p) else []
section
variable {st : Int} {H : List (Int × Int)} {N : List (Int × List Int)} {p l l' : List (Int × Int × Int)} {x y s : Int} {cand : List (Int × Int)}
theorem trQ_parts (h : trQ st H N = true) : trR st H N = true ∧ valT N (List.replicate H.length 0) = 0 := by
  unfold trQ at h
  rw [Bool.and_eq_true, decide_eq_true_eq] at h
  exact h
theorem getC_or (h : SSC p) (x y : Int) : getC p x y = 0 ∨ ∃ s, (x, y, s) ∈ p ∧ getC p x y = s := by
  by_cases hx : ∃ s, (x, y, s) ∈ p
  · obtain ⟨s, hs⟩ := hx
    exact .inr ⟨s, hs, getC_mem h hs⟩
  · refine .inl (getC_not fun c hc e => hx ⟨c.2.2, ?_⟩)
    obtain ⟨a, b, s⟩ := c
    obtain ⟨rfl, rfl⟩ := e
    exact hc
theorem cell_right (h : rightC p = true) (hm : (x, y, s) ∈ p) : Pt x y ∧ 1 ≤ s ∧ s ≤ 7 := by
  obtain ⟨i, hi⟩ := List.getElem?_of_mem hm
  exact rightC_elem h hi
theorem FitsR.get (h : FitsR st H N p) (x y : Int) : 0 ≤ getC p x y ∧ getC p x y < st := by
  have hst := (trR_parts (trQ_parts h.rule).1).1
  rcases getC_or (rightC_sorted h.pat) x y with e | ⟨s, hs, e⟩
  · rw [e]; omega
  · have h1 := cell_right h.pat hs
    have h2 := h.top _ hs
    rw [e]; simp only at h2; omega
theorem FitsR.range (h : FitsR st H N p) (x y : Int) : 0 ≤ nxT H N p x y ∧ nxT H N p x y < st := by
  refine valT_range (trQ_parts h.rule).1 (by simp) fun s hs => ?_
  obtain ⟨o, _, rfl⟩ := List.mem_map.1 hs
  exact h.get _ _
theorem nx_zero (h : trQ st H N = true) (h0 : ∀ o ∈ H, getC p (x + o.1) (y + o.2) = 0) : nxT H N p x y = 0 := by
  unfold nxT
  rw [show (H.map fun o => getC p (x + o.1) (y + o.2)) = List.replicate H.length 0 from ?_]
  · exact (trQ_parts h).2
  · rw [List.eq_replicate_iff]
    refine ⟨by simp, fun b hb => ?_⟩
    obtain ⟨o, ho, rfl⟩ := List.mem_map.1 hb
    exact h0 o ho
/-- A position whose new state is not 0 has a cell in its neighbourhood. -/
theorem nx_cell (h : trQ st H N = true) (hS : SSC p) (hn : nxT H N p x y ≠ 0) : ∃ o ∈ H, ∃ s, (x + o.1, y + o.2, s) ∈ p := by
  by_cases hx : ∃ o ∈ H, getC p (x + o.1) (y + o.2) ≠ 0
  · obtain ⟨o, ho, hg⟩ := hx
    rcases getC_or hS (x + o.1) (y + o.2) with e | ⟨s, hs, _⟩
    · exact absurd e hg
    · exact ⟨o, ho, s, hs⟩
  · refine absurd (nx_zero h fun o ho => ?_) hn
    by_cases hg : getC p (x + o.1) (y + o.2) = 0
    · exact hg
    · exact absurd ⟨o, ho, hg⟩ hx
theorem mem_cand {q : Int × Int} : q ∈ candL H p ↔ ∃ c ∈ p, ∃ o ∈ H, q = (c.1 - o.1, c.2.1 - o.2) := by
  unfold candL
  simp only [List.mem_flatMap, List.mem_map]
  constructor
  · rintro ⟨c, hc, o, ho, rfl⟩; exact ⟨c, hc, o, ho, rfl⟩
  · rintro ⟨c, hc, o, ho, rfl⟩; exact ⟨c, hc, o, ho, rfl⟩
theorem nx_cand (h : trQ st H N = true) (hS : SSC p) (hn : nxT H N p x y ≠ 0) : (x, y) ∈ candL H p := by
  obtain ⟨o, ho, s, hs⟩ := nx_cell h hS hn
  refine mem_cand.2 ⟨_, hs, o, ho, ?_⟩
  simp only [Prod.mk.injEq]
  omega
theorem genR_is (h : trQ st H N = true) (hS : SSC p) : IsGen H N p (genR H N p) := by
  unfold genR
  refine ⟨?_, fun x y s => ?_⟩
  · have key : ∀ l : List (Int × Int), ((l.filterMap fun q => if nxT H N p q.1 q.2 = 0 then none else some (q.1, q.2, nxT H N p q.1 q.2)).map posD).Sublist l := by
      intro l
      induction l with
      | nil => exact List.Sublist.refl _
      | cons q l ih =>
        rw [List.filterMap_cons]
        by_cases h0 : nxT H N p q.1 q.2 = 0
        · rw [if_pos h0]; exact ih.cons _
        · rw [if_neg h0]; exact ih.cons_cons _
    exact (dd_nodup _).sublist (key _)
  · rw [List.mem_filterMap]
    constructor
    · rintro ⟨q, _, hq⟩
      by_cases h0 : nxT H N p q.1 q.2 = 0
      · rw [if_pos h0] at hq; cases hq
      · rw [if_neg h0] at hq
        simp only [Option.some.injEq, Prod.mk.injEq] at hq
        obtain ⟨rfl, rfl, rfl⟩ := hq
        exact ⟨rfl, h0⟩
    · rintro ⟨rfl, hn⟩
      exact ⟨(x, y), dd_mem.2 (nx_cand h hS hn), by rw [if_neg hn]⟩
theorem IsGen.srt (h : IsGen H N p l) (h' : IsGen H N p l') : srtC l = srtC l' ∧ l.length = l'.length ∧ l.all plD = l'.all plD := by
  have hm : ∀ z, z ∈ l ↔ z ∈ l' := fun ⟨x, y, s⟩ => by rw [h.2, h'.2]
  have e : srtC l = srtC l' := srt_eq h.1 (srt_of h'.1) fun z => by rw [(srtC_perm l').mem_iff, hm]
  refine ⟨e, by rw [← (srtC_perm l).length_eq, e, (srtC_perm l').length_eq], ?_⟩
  rw [Bool.eq_iff_iff, List.all_eq_true, List.all_eq_true]
  exact ⟨fun g z hz => g z ((hm z).2 hz), fun g z hz => g z ((hm z).1 hz)⟩
/-- What From answers for good cells at different positions. -/
theorem fr_cells (hv : okCells l) (hn : (l.map posD).Nodup) : frE l = (if 5000 < l.length then 6 else 0) ∧ frL l = if 5000 < l.length then [] else srtC l := by
  by_cases hl : 5000 < l.length
  · rw [if_pos hl, if_pos hl]
    have hz : nz l = l := List.filter_eq_self.2 fun c hc => by unfold nzC; exact decide_eq_true (by have := hv c hc; omega)
    have hf : frFirst l = 0 := by
      refine frFirst_good fun i d hd => ?_
      have := hv d (List.mem_of_getElem? hd)
      obtain ⟨x, y, s⟩ := d
      exact frBad_ok' (validB_iff.2 this.1) (by have := this.2.1; simp only at this; omega) this.2.2
    have he : frE l = 6 := frE_size hf (by rw [hz]; exact ssB_iff.2 (srt_of hn)) (by rw [hz]; exact hl)
    exact ⟨he, frL_no he (by omega)⟩
  · rw [if_neg hl, if_neg hl]
    exact frL_cells hv hn (by omega)
theorem IsGen.ok (h : IsGen H N p l) (hf : FitsR st H N p) (hp : l.all plD = true) : okCells l := by
  rintro ⟨x, y, s⟩ hc
  have hst := (trR_parts (trQ_parts hf.rule).1).1
  obtain ⟨e, h0⟩ := (h.2 x y s).1 hc
  have hr := hf.range x y
  rw [← e] at hr
  exact ⟨validB_iff.1 ((List.all_eq_true.1 hp) _ hc), by simp only; omega, by simp only; omega⟩
/-- The program's way: From of the cells found. -/
theorem fr_gen (hf : FitsR st H N p) (h : IsGen H N p l) (hp : l.all plD = true) : frE l = stE H N p ∧ frL l = stL H N p := by
  obtain ⟨e1, e2, e3⟩ := h.srt (genR_is hf.rule (rightC_sorted hf.pat))
  obtain ⟨f1, f2⟩ := fr_cells (h.ok hf hp) h.1
  rw [hp] at e3
  have hE : stE H N p = if 5000 < l.length then 6 else 0 := by unfold stE; rw [if_pos e3.symm, e2]
  refine ⟨by rw [f1, hE], ?_⟩
  unfold stL
  rw [f2, hE]
  by_cases hl : 5000 < l.length
  · rw [if_pos hl, if_pos hl, if_neg (by omega)]
  · rw [if_neg hl, if_neg hl, if_pos rfl, e1]
theorem st_bad (hf : FitsR st H N p) (h : ∃ x y, nxT H N p x y ≠ 0 ∧ ¬ Pt x y) : stE H N p = 5 ∧ stL H N p = [] := by
  obtain ⟨x, y, h1, h2⟩ := h
  have hg := genR_is hf.rule (rightC_sorted hf.pat)
  have e : stE H N p = 5 := by
    unfold stE
    rw [if_neg]
    intro hp
    exact h2 (validB_iff.1 ((List.all_eq_true.1 hp) _ ((hg.2 x y _).2 ⟨rfl, h1⟩)))
  exact ⟨e, by unfold stL; rw [e, if_neg (by omega)]⟩
theorem st_fits (hf : FitsR st H N p) : FitsR st H N (stL H N p) := by
  have hg := genR_is hf.rule (rightC_sorted hf.pat)
  unfold stL
  by_cases he : stE H N p = 0
  · rw [if_pos he]
    have hp : (genR H N p).all plD = true := by
      unfold stE at he
      by_cases hp : (genR H N p).all plD = true
      · exact hp
      · rw [if_neg hp] at he; omega
    have hl : (genR H N p).length ≤ 5000 := by
      unfold stE at he
      rw [if_pos hp] at he
      by_cases hl : 5000 < (genR H N p).length
      · rw [if_pos hl] at he; omega
      · omega
    have hok := hg.ok hf hp
    refine ⟨hf.rule, rightC_of (by rw [(srtC_perm _).length_eq]; exact hl) (fun c hc => hok c ((srtC_perm _).mem_iff.1 hc)) (srt_of hg.1), fun c hc => ?_⟩
    obtain ⟨x, y, s⟩ := c
    obtain ⟨e, _⟩ := (hg.2 x y s).1 ((srtC_perm _).mem_iff.1 hc)
    have := hf.range x y
    simp only
    omega
  · rw [if_neg he]
    exact ⟨hf.rule, by decide, fun c hc => by cases hc⟩
theorem genC_nil : GenC [] H N p [] := ⟨List.nodup_nil, fun x y s => by simp⟩
theorem GenC.old {q : Int × Int} (h : GenC cand H N p l) (hq : q ∈ cand) : GenC (cand ++ [q]) H N p l := by
  refine ⟨h.1, fun x y s => ?_⟩
  rw [h.2, List.mem_append]
  constructor
  · rintro ⟨h1, h2⟩; exact ⟨.inl h1, h2⟩
  · rintro ⟨h1 | h1, h2⟩
    · exact ⟨h1, h2⟩
    · rw [List.mem_singleton] at h1; exact ⟨by rw [h1]; exact hq, h2⟩
theorem GenC.zero {a b : Int} (h : GenC cand H N p l) (h0 : nxT H N p a b = 0) : GenC (cand ++ [(a, b)]) H N p l := by
  refine ⟨h.1, fun x y s => ?_⟩
  rw [h.2, List.mem_append]
  constructor
  · rintro ⟨h1, h2⟩; exact ⟨.inl h1, h2⟩
  · rintro ⟨h1 | h1, h2⟩
    · exact ⟨h1, h2⟩
    · simp only [List.mem_singleton, Prod.mk.injEq] at h1
      obtain ⟨rfl, rfl⟩ := h1
      exact absurd (h2.1.trans h0) h2.2
theorem GenC.new {a b : Int} (h : GenC cand H N p l) (hq : (a, b) ∉ cand) (h0 : nxT H N p a b ≠ 0) : GenC (cand ++ [(a, b)]) H N p (l ++ [(a, b, nxT H N p a b)]) := by
  refine ⟨?_, fun x y s => ?_⟩
  · rw [List.map_append, List.nodup_append]
    refine ⟨h.1, by simp, fun u hu v hv e => ?_⟩
    obtain ⟨⟨x, y, s⟩, hx, rfl⟩ := List.mem_map.1 hu
    simp only [List.map_cons, List.map_nil, List.mem_singleton] at hv
    rw [hv] at e
    unfold posD at e
    simp only [Prod.mk.injEq] at e
    obtain ⟨rfl, rfl⟩ := e
    exact hq ((h.2 x y s).1 hx).1
  · rw [List.mem_append, h.2, List.mem_append]
    simp only [List.mem_singleton, Prod.mk.injEq]
    constructor
    · rintro (⟨h1, h2⟩ | ⟨rfl, rfl, rfl⟩)
      · exact ⟨.inl h1, h2⟩
      · exact ⟨.inr ⟨rfl, rfl⟩, rfl, h0⟩
    · rintro ⟨h1 | ⟨rfl, rfl⟩, h2⟩
      · exact .inl ⟨h1, h2⟩
      · exact .inr ⟨rfl, rfl, h2.1⟩
theorem GenC.full (h : GenC (candL H p) H N p l) (hr : trQ st H N = true) (hS : SSC p) : IsGen H N p l := by
  refine ⟨h.1, fun x y s => ?_⟩
  rw [h.2]
  constructor
  · rintro ⟨_, h2⟩; exact h2
  · intro h2; exact ⟨nx_cand hr hS (by rw [← h2.1]; exact h2.2), h2⟩
theorem cand_step {i : Nat} {c : Int × Int × Int} (h : p[i]? = some c) : candL H (p.take (i + 1)) = candL H (p.take i) ++ H.map fun o => (c.1 - o.1, c.2.1 - o.2) := by
  unfold candL
  rw [List.take_add_one, h, List.flatMap_append]
  simp
end
end Go.Proofs.YtellglbmbocgkaaGreatDoor
end
section
namespace Go.Proofs.YtellglbmbocgkaaGreatDoor
open Go Go.RowKit
def fitE (st : Int) (H : List (Int × Int)) (N : List (Int × List Int)) (p : List (Int × Int × Int)) : Int :=
  if trQ st H N = true then (if rightC p = true then (if p.any (fun c => decide (st ≤ c.2.2)) = true then 10 else 0) else 2) else 11
def itS (H : List (Int × Int)) (N : List (Int × List Int)) (p : List (Int × Int × Int)) : Nat → Int × List (Int × Int × Int)
  | 0 => (0, p)
  | k + 1 => if (itS H N p k).1 = 0 then (stE H N (itS H N p k).2, stL H N (itS H N p k).2) else ((itS H N p k).1, [])
def runE (st : Int) (H : List (Int × Int)) (N : List (Int × List Int)) (p : List (Int × Int × Int)) (n : Int) : Int := if fitE st H N p = 0 then (if n < 0 ∨ 10000 < n then 2 else (itS H N p n.toNat).1) else fitE st H N p
def runL (st : Int) (H : List (Int × Int)) (N : List (Int × List Int)) (p : List (Int × Int × Int)) (n : Int) : List (Int × Int × Int) := if runE st H N p n = 0 then (itS H N p n.toNat).2 else []
def hisL (st : Int) (H : List (Int × Int)) (N : List (Int × List Int)) (p : List (Int × Int × Int)) (n : Int) : List (List (Int × Int × Int)) := if runE st H N p n = 0 then (List.range (n.toNat + 1)).map fun k => (itS H N p k).2 else []
def stpE (st : Int) (H : List (Int × Int)) (N : List (Int × List Int)) (p : List (Int × Int × Int)) : Int := if fitE st H N p = 0 then stE H N p else fitE st H N p
def stpL (st : Int) (H : List (Int × Int)) (N : List (Int × List Int)) (p : List (Int × Int × Int)) : List (Int × Int × Int) := if fitE st H N p = 0 then stL H N p else []
section
variable {st : Int} {H : List (Int × Int)} {N : List (Int × List Int)} {p l a b : List (Int × Int × Int)} {x y s dx dy : Int}
theorem fit_iff : fitE st H N p = 0 ↔ FitsR st H N p := by
  unfold fitE
  constructor
  · intro h
    by_cases h1 : trQ st H N = true
    · rw [if_pos h1] at h
      by_cases h2 : rightC p = true
      · rw [if_pos h2] at h
        by_cases h3 : p.any (fun c => decide (st ≤ c.2.2)) = true
        · rw [if_pos h3] at h; omega
        · refine ⟨h1, h2, fun c hc => ?_⟩
          rcases Int.lt_or_le c.2.2 st with g | g
          · exact g
          · exact absurd (List.any_eq_true.2 ⟨c, hc, decide_eq_true g⟩) h3
      · rw [if_neg h2] at h; omega
    · rw [if_neg h1] at h; omega
  · intro h
    rw [if_pos h.rule, if_pos h.pat, if_neg]
    intro h3
    obtain ⟨c, hc, g⟩ := List.any_eq_true.1 h3
    have := h.top c hc
    have := of_decide_eq_true g
    omega
theorem fit_rule (h : trQ st H N = false) : fitE st H N p = 11 := by unfold fitE; rw [h]; rfl
theorem fit_pat (h : trQ st H N = true) (h2 : rightC p = false) : fitE st H N p = 2 := by unfold fitE; rw [if_pos h, h2]; rfl
theorem fit_top (h : trQ st H N = true) (h2 : rightC p = true) : fitE st H N p = if p.any (fun c => decide (st ≤ c.2.2)) = true then 10 else 0 := by unfold fitE; rw [if_pos h, if_pos h2]
theorem top_fold : ∀ (p : List (Int × Int × Int)) (m : Int), st ≤ p.foldl (fun m c => max m c.2.2) m ↔ st ≤ m ∨ ∃ c ∈ p, st ≤ c.2.2
  | [], m => by simp
  | c :: p, m => by
    rw [List.foldl_cons, top_fold p]
    constructor
    · rintro (h | ⟨d, hd, h⟩)
      · by_cases h1 : st ≤ m
        · exact .inl h1
        · exact .inr ⟨c, by simp, by omega⟩
      · exact .inr ⟨d, by simp [hd], h⟩
    · rintro (h | ⟨d, hd, h⟩)
      · exact .inl (by omega)
      · rcases List.mem_cons.1 hd with rfl | hd
        · exact .inl (by omega)
        · exact .inr ⟨d, hd, h⟩
theorem top_any (h : 0 < st) : p.any (fun c => decide (st ≤ c.2.2)) = decide (st ≤ topC p) := by
  rw [Bool.eq_iff_iff, List.any_eq_true, decide_eq_true_eq]
  unfold topC
  rw [top_fold]
  constructor
  · rintro ⟨c, hc, g⟩; exact .inr ⟨c, hc, of_decide_eq_true g⟩
  · rintro (g | ⟨c, hc, g⟩)
    · omega
    · exact ⟨c, hc, decide_eq_true g⟩
theorem st_get (hf : FitsR st H N p) (he : stE H N p = 0) (x y : Int) : getC (stL H N p) x y = nxT H N p x y := by
  have hg := genR_is hf.rule (rightC_sorted hf.pat)
  have hr := (st_fits hf).pat
  have e : stL H N p = srtC (genR H N p) := by unfold stL; rw [if_pos he]
  rw [e] at hr ⊢
  have hm : ∀ z, z ∈ srtC (genR H N p) ↔ z ∈ genR H N p := fun z => (srtC_perm _).mem_iff
  by_cases h0 : nxT H N p x y = 0
  · rw [h0]
    refine getC_not fun c hc e => ?_
    obtain ⟨a, b, s⟩ := c
    obtain ⟨rfl, rfl⟩ := e
    have := (hg.2 _ _ _).1 ((hm _).1 hc)
    exact this.2 (this.1.trans h0)
  · exact getC_mem (rightC_sorted hr) ((hm _).2 ((hg.2 _ _ _).2 ⟨rfl, h0⟩))
theorem nil_fits (h : trQ st H N = true) : FitsR st H N [] := ⟨h, by decide, fun c hc => by cases hc⟩
theorem it_fits (hf : FitsR st H N p) : ∀ k, FitsR st H N (itS H N p k).2
  | 0 => hf
  | k + 1 => by
    unfold itS
    split
    · exact st_fits (it_fits hf k)
    · exact nil_fits hf.rule
theorem it_step {k : Nat} (h : (itS H N p k).1 = 0) : itS H N p (k + 1) = (stE H N (itS H N p k).2, stL H N (itS H N p k).2) := by
  show (if _ then _ else _) = _
  rw [if_pos h]
theorem it_stuck {k : Nat} {e : Int} (h : (itS H N p k).1 = e) (he : e ≠ 0) : ∀ j, (itS H N p (k + j)).1 = e
  | 0 => h
  | j + 1 => by
    have ih := it_stuck h he j
    show (itS H N p (k + j + 1)).1 = e
    unfold itS
    rw [if_neg (by rw [ih]; exact he)]
    exact ih
theorem it_err {k : Nat} (h : (itS H N p k).1 ≠ 0) : (itS H N p k).2 = [] := by
  cases k with
  | zero => exact absurd rfl h
  | succ k =>
    by_cases h0 : (itS H N p k).1 = 0
    · rw [it_step h0] at h ⊢
      simp only at h ⊢
      unfold stL; rw [if_neg h]
    · show (if _ then _ else _ : Int × List (Int × Int × Int)).2 = []
      rw [if_neg h0]
theorem getC_move : ∀ (p : List (Int × Int × Int)) (x y : Int), getC (p.map (mv5 dx dy)) x y = getC p (x - dx) (y - dy)
  | [], _, _ => rfl
  | c :: p, x, y => by
    show (if c.1 + dx = x ∧ c.2.1 + dy = y then c.2.2 else getC (p.map (mv5 dx dy)) x y) = (if c.1 = x - dx ∧ c.2.1 = y - dy then c.2.2 else getC p (x - dx) (y - dy))
    rw [getC_move p x y]
    by_cases h : c.1 + dx = x ∧ c.2.1 + dy = y
    · rw [if_pos h, if_pos (by omega)]
    · rw [if_neg h, if_neg (by omega)]
end
end Go.Proofs.YtellglbmbocgkaaGreatDoor
end
section
namespace Go.Proofs.YtellglbmbocgkaaGreatDoor
open Go Go.RowKit
section
variable {α β : Type}
end
section
variable {st key g gen k : Int} {K j n m : Nat} {fs : List TFr} {p : List Cel} {H : List (Int × Int)} {N : List (Int × List Int)}
end
section
variable {st key : Int} {n k : Nat} {p : List Cel} {H : List (Int × Int)} {N : List (Int × List Int)}
theorem runX (hf : FitsR st H N p) (hm : k ≤ 10000) : runE st H N p k = (itS H N p k).1 ∧ runL st H N p k = (itS H N p k).2 := by
  have h1 : runE st H N p k = (itS H N p k).1 := by
    unfold runE; rw [if_pos (fit_iff.2 hf), if_neg (by omega), Int.toNat_natCast]
  refine ⟨h1, ?_⟩
  unfold runL
  rw [Int.toNat_natCast]
  by_cases h0 : runE st H N p k = 0
  · rw [if_pos h0]
  · rw [if_neg h0]
    exact (it_err (by rw [← h1]; exact h0)).symm
end
end Go.Proofs.YtellglbmbocgkaaGreatDoor
end
section
namespace Go.Proofs.YtellglbmbocgkaaGreatDoor
open Go Go.RowKit
theorem hood_in {H : List (Int × Int)} (h : rightL H = true) : H.length ≤ 25 ∧ ∀ o ∈ H, (-2 ≤ o.1 ∧ o.1 ≤ 2) ∧ -2 ≤ o.2 ∧ o.2 ≤ 2 := by
  unfold rightL at h
  rw [Bool.and_eq_true, decide_eq_true_eq, List.all_eq_true] at h
  refine ⟨h.1.2, fun o ho => ?_⟩
  obtain ⟨i, hi, rfl⟩ := List.getElem_of_mem ho
  have h1 := h.2 i (by simpa using hi)
  unfold okAt at h1
  rw [List.getElem?_eq_getElem hi] at h1
  unfold inR at h1
  simp only [Bool.and_eq_true, decide_eq_true_eq] at h1
  exact ⟨h1.1.1, h1.1.2⟩
section
variable {st : Int} {H : List (Int × Int)} {N : List (Int × List Int)} {p a b all : List (Int × Int × Int)} {x y : Int}
end
end Go.Proofs.YtellglbmbocgkaaGreatDoor
end
section
namespace Go.Proofs.YtellglbmbocgkaaGreatDoor
open Go Go.RowKit
def rowL (X y : Int) (W : Nat) : List (Int × Int) := (List.range W).map fun i => (X + (i : Nat), y)
def rectL (X Y : Int) (W h : Nat) : List (Int × Int) := (List.range h).flatMap fun j => rowL X (Y + (j : Nat)) W
theorem rect_step (X Y : Int) (W h : Nat) : rectL X Y W (h + 1) = rectL X Y W h ++ rowL X (Y + (h : Nat)) W := by
  unfold rectL; rw [List.range_succ, List.flatMap_append]; simp
theorem mem_row {X y : Int} {W : Nat} {q : Int × Int} : q ∈ rowL X y W ↔ (X ≤ q.1 ∧ q.1 < X + W) ∧ q.2 = y := by
  unfold rowL
  rw [List.mem_map]
  constructor
  · rintro ⟨i, hi, rfl⟩
    have : i < W := by simpa using hi
    exact ⟨⟨by simp only; omega, by simp only; omega⟩, rfl⟩
  · rintro ⟨⟨h1, h2⟩, h3⟩
    refine ⟨(q.1 - X).toNat, by simp; omega, ?_⟩
    exact Prod.ext (by simp only; omega) h3.symm
theorem mem_rect {X Y : Int} {W : Nat} {q : Int × Int} : ∀ {h : Nat}, q ∈ rectL X Y W h ↔ (X ≤ q.1 ∧ q.1 < X + W) ∧ Y ≤ q.2 ∧ q.2 < Y + h
  | 0 => by
    unfold rectL
    simp
    try (intros; omega)
  | h + 1 => by
    rw [rect_step, List.mem_append, mem_rect (h := h), mem_row]
    constructor
    · rintro (⟨h1, h2, h3⟩ | ⟨h1, h2⟩)
      · exact ⟨h1, h2, by omega⟩
      · exact ⟨h1, by omega, by omega⟩
    · rintro ⟨h1, h2, h3⟩
      by_cases hq : q.2 < Y + h
      · exact .inl ⟨h1, h2, hq⟩
      · exact .inr ⟨h1, by omega⟩
theorem row_len (X y : Int) (W : Nat) : (rowL X y W).length = W := by unfold rowL; simp
theorem rect_len (X Y : Int) (W : Nat) : ∀ h : Nat, (rectL X Y W h).length = h * W
  | 0 => by unfold rectL; simp
  | h + 1 => by rw [rect_step, List.length_append, rect_len X Y W h, row_len, Nat.add_mul]; omega
section
variable {st : Int} {H : List (Int × Int)} {N : List (Int × List Int)} {p l : List (Int × Int × Int)} {all : List (Int × Int)}
end
end Go.Proofs.YtellglbmbocgkaaGreatDoor
end
section
namespace Go.Proofs.YtellglbmbocgkaaGreatDoor
open Go Go.RowKit
def puF (f : Int → Int → Option Int) (x y v : Int) : Int → Int → Option Int := fun a b => if a = x ∧ b = y then some v else f a b
def ofF (p : List (Int × Int × Int)) : Int → Int → Option Int := p.foldl (fun f c => puF f c.1 c.2.1 c.2.2) (fun _ _ => none)
def getO : List (Int × Int × Int) → Int → Int → Option Int
  | [], _, _ => none
  | c :: l, x, y => if c.1 = x ∧ c.2.1 = y then some c.2.2 else getO l x y
theorem getO_none : ∀ {l : List (Int × Int × Int)} {x y : Int}, (x, y) ∉ l.map posD → getO l x y = none
  | [], _, _, _ => rfl
  | c :: l, x, y, h => by
    show (if c.1 = x ∧ c.2.1 = y then some c.2.2 else getO l x y) = none
    rw [if_neg, getO_none (l := l)]
    · intro hm; exact h (List.mem_cons_of_mem _ hm)
    · rintro ⟨rfl, rfl⟩
      exact h (by rw [List.map_cons]; exact List.mem_cons_self ..)
theorem getO_get : ∀ (l : List (Int × Int × Int)) (x y : Int), (getO l x y).getD 0 = getC l x y
  | [], _, _ => rfl
  | c :: l, x, y => by
    unfold getO getC
    by_cases h : c.1 = x ∧ c.2.1 = y
    · rw [if_pos h, if_pos h]; rfl
    · rw [if_neg h, if_neg h]; exact getO_get l x y
theorem of_fold : ∀ (p : List (Int × Int × Int)) (f : Int → Int → Option Int), (p.map posD).Nodup → ∀ x y, (p.foldl (fun f c => puF f c.1 c.2.1 c.2.2) f) x y = (getO p x y).or (f x y)
  | [], f, _, x, y => by simp [getO]
  | c :: p, f, h, x, y => by
    rw [List.map_cons, List.nodup_cons] at h
    rw [List.foldl_cons, of_fold p _ h.2 x y]
    show _ = (if c.1 = x ∧ c.2.1 = y then some c.2.2 else getO p x y).or _
    by_cases e : c.1 = x ∧ c.2.1 = y
    · obtain ⟨rfl, rfl⟩ := e
      rw [if_pos ⟨rfl, rfl⟩, getO_none (l := p) h.1]
      unfold puF
      simp
    · rw [if_neg e]
      unfold puF
      rw [if_neg (fun h => e ⟨h.1.symm, h.2.symm⟩)]
theorem of_get {p : List (Int × Int × Int)} (h : SSC p) (x y : Int) : (ofF p x y).getD 0 = getC p x y := by
  unfold ofF
  rw [of_fold p _ (ssc_iff.1 h).2 x y, ← getO_get]
  cases getO p x y <;> rfl
theorem of_step {p : List (Int × Int × Int)} {j : Nat} {c : Int × Int × Int} (h : p[j]? = some c) : ofF (p.take (j + 1)) = puF (ofF (p.take j)) c.1 c.2.1 c.2.2 := by
  unfold ofF
  rw [List.take_add_one, h, List.foldl_append]; rfl
theorem of_all {p : List (Int × Int × Int)} {n : Nat} (h : p.length = n) : ofF (p.take n) = ofF p := by
  rw [List.take_of_length_le (by omega)]
/-- The states that a neighbourhood reads. -/
def nbS (H : List (Int × Int)) (p : List (Int × Int × Int)) (x y : Int) : List Int := H.map fun o => getC p (x + o.1) (y + o.2)
theorem nbS_len {H : List (Int × Int)} {p : List (Int × Int × Int)} {x y : Int} : (nbS H p x y).length = H.length := by simp [nbS]
theorem nbS_at {H : List (Int × Int)} {p : List (Int × Int × Int)} {x y : Int} {j : Nat} {o : Int × Int} (h : H[j]? = some o) : (nbS H p x y)[j]? = some (getC p (x + o.1) (y + o.2)) := by
  unfold nbS; rw [List.getElem?_map, h]; rfl
theorem nbS_ok {st : Int} {H : List (Int × Int)} {N : List (Int × List Int)} {p : List (Int × Int × Int)} (hf : FitsR st H N p) (x y : Int) : ∀ s ∈ nbS H p x y, 0 ≤ s ∧ s < st := by
  intro s hs
  obtain ⟨o, _, rfl⟩ := List.mem_map.1 hs
  exact hf.get _ _
theorem nxT_ins {H : List (Int × Int)} {N : List (Int × List Int)} {p : List (Int × Int × Int)} {x y : Int} : nxT H N p x y = valT N (nbS H p x y) := rfl
end Go.Proofs.YtellglbmbocgkaaGreatDoor
end
section
namespace Go.Proofs.YtellglbmbocgkaaGreatDoor
open Go Go.RowKit
def cm (a b : Nat) : Nat := (comp a b).toNat
theorem comp_table : ∀ a : Nat, a < 8 → ∀ b : Nat, b < 8 → (comp (a : Int) (b : Int) = rcomp (a : Int) (b : Int) ∧ comp (a : Int) (b : Int) = ((cm a b : Nat) : Int) ∧ cm a b < 8) := by decide +kernel
theorem app_r8 (k x y : Int) : app k x y = app (r8 k : Nat) x y := by rw [app_mod, r8_cast]
theorem comp_r8 (a b : Int) : comp a b = comp (r8 a : Nat) (r8 b : Nat) := by
  unfold comp
  rw [app_r8 a, app_r8 a 0 1]
  simp only [app_r8 b]
theorem comp_cm (a b : Int) : comp a b = ((cm (r8 a) (r8 b) : Nat) : Int) := by
  rw [comp_r8]; exact (comp_table _ (r8_lt a) _ (r8_lt b)).2.1
theorem cm_lt {a b : Nat} (ha : a < 8) (hb : b < 8) : cm a b < 8 := (comp_table a ha b hb).2.2
theorem r8_nat {k : Nat} (h : k < 8) : r8 (k : Int) = k := by unfold r8; omega
def iv (a : Nat) : Nat := (inv a).toNat
theorem inv_table : ∀ a : Nat, a < 8 → (inv (a : Int) = rinv (a : Int) ∧ inv (a : Int) = ((iv a : Nat) : Int) ∧ iv a < 8 ∧ cm a (iv a) = 0) := by decide +kernel
theorem inv_r8 (k : Int) : inv k = inv (r8 k : Nat) := by
  unfold inv
  rw [firstAt_congr (q := invP (r8 k : Nat))]
  intro i _
  unfold invP
  have h := comp_r8 ((r8 k : Nat) : Int) (i : Int)
  rw [r8_nat (r8_lt k)] at h
  rw [comp_r8 k i, h]
theorem inv_iv (k : Int) : inv k = ((iv (r8 k) : Nat) : Int) := by rw [inv_r8]; exact (inv_table _ (r8_lt k)).2.1
theorem iv_lt {k : Nat} (h : k < 8) : iv k < 8 := (inv_table k h).2.2.1
theorem comp_inv (k : Int) : comp k (inv k) = 0 := by
  rw [comp_cm, inv_iv, r8_nat (iv_lt (r8_lt k)), (inv_table _ (r8_lt k)).2.2.2]; rfl

end Go.Proofs.YtellglbmbocgkaaGreatDoor
end
section
namespace Go.Proofs.YtellglbmbocgkaaGreatDoor
open Go Go.RowKit
theorem app_I64 (k x y : Int) : I64 (app k x y).1 ∧ I64 (app k x y).2 := by
  unfold I64 app wrap64; omega
/-- The eight applications, written out. -/
def app8 (r : Nat) (x y : Int) : Int × Int := match r with
  | 0 => (x, y)
  | 1 => (wrap64 (-y), x)
  | 2 => (wrap64 (-x), wrap64 (-y))
  | 3 => (y, wrap64 (-x))
  | 4 => (wrap64 (-x), y)
  | 5 => (wrap64 (-y), wrap64 (-x))
  | 6 => (x, wrap64 (-y))
  | _ => (y, x)
theorem app_app8 (k x y : Int) (hx : I64 x) (hy : I64 y) : app k x y = app8 (r8 k) x y := by
  unfold I64 at hx hy
  have h := r8_lt k
  unfold app
  generalize r8 k = r at h
  have hc : r = 0 ∨ r = 1 ∨ r = 2 ∨ r = 3 ∨ r = 4 ∨ r = 5 ∨ r = 6 ∨ r = 7 := by omega
  rcases hc with rfl | rfl | rfl | rfl | rfl | rfl | rfl | rfl <;> simp [app8, mat, wrap64] <;> omega
theorem app8_comp : ∀ a : Nat, a < 8 → ∀ b : Nat, b < 8 → ∀ x y : Int, I64 x → I64 y → app8 b (app8 a x y).1 (app8 a x y).2 = app8 (cm a b) x y := by
  have ht : ∀ a : Nat, a < 8 → ∀ b : Nat, b < 8 → cm a b = (([0, 1, 2, 3, 4, 5, 6, 7, 1, 2, 3, 0, 7, 4, 5, 6, 2, 3, 0, 1, 6, 7, 4, 5, 3, 0, 1, 2, 5, 6, 7, 4, 4, 5, 6, 7, 0, 1, 2, 3, 5, 6, 7, 4, 3, 0, 1, 2, 6, 7, 4, 5, 2, 3, 0, 1, 7, 4, 5, 6, 1, 2, 3, 0] : List Nat).getD (a * 8 + b) 0) := by decide +kernel
  intro a ha b hb x y hx hy
  rw [ht a ha b hb]
  unfold I64 at hx hy
  have hca : a = 0 ∨ a = 1 ∨ a = 2 ∨ a = 3 ∨ a = 4 ∨ a = 5 ∨ a = 6 ∨ a = 7 := by omega
  have hcb : b = 0 ∨ b = 1 ∨ b = 2 ∨ b = 3 ∨ b = 4 ∨ b = 5 ∨ b = 6 ∨ b = 7 := by omega
  rcases hca with rfl | rfl | rfl | rfl | rfl | rfl | rfl | rfl <;> rcases hcb with rfl | rfl | rfl | rfl | rfl | rfl | rfl | rfl <;> simp [app8, wrap64] <;> omega
theorem app_comp (a b x y : Int) (hx : I64 x) (hy : I64 y) : app b (app a x y).1 (app a x y).2 = app (comp a b) x y := by
  obtain ⟨h1, h2⟩ := app_I64 a x y
  rw [app_app8 b _ _ h1 h2, app_app8 (comp a b) _ _ hx hy, app_app8 a _ _ hx hy, app8_comp _ (r8_lt a) _ (r8_lt b) _ _ hx hy, comp_cm, r8_nat (cm_lt (r8_lt a) (r8_lt b))]
theorem app_inv (k x y : Int) (hx : I64 x) (hy : I64 y) : app (inv k) (app k x y).1 (app k x y).2 = (x, y) := by
  rw [app_comp _ _ _ _ hx hy, comp_inv, app_app8 _ _ _ hx hy]; rfl
end Go.Proofs.YtellglbmbocgkaaGreatDoor
end
section
namespace Go.Proofs.YtellglbmbocgkaaGreatDoor
open Go Go.RowKit
section
variable {l : List (Int × Int × Int)} {x y w h : Int}
end
def djB (a b : List (Int × Int × Int)) : Bool := rightC a && rightC b && (resL 1 a b).isEmpty
def trn (k : Int) (c : Int × Int × Int) : Int × Int × Int := ((app k c.1 c.2.1).1, (app k c.1 c.2.1).2, c.2.2)
def trL (k : Int) (l : List (Int × Int × Int)) : List (Int × Int × Int) := srtC (l.map (trn k))
theorem pt_i64 {x y : Int} (h : Pt x y) : I64 x ∧ I64 y := by unfold Pt at h; unfold I64; omega
theorem app_pt (k : Int) {x y : Int} (h : Pt x y) : Pt (app k x y).1 (app k x y).2 := by
  obtain ⟨h1, h2⟩ := pt_i64 h
  rw [app_app8 k x y h1 h2]
  have hr := r8_lt k
  generalize r8 k = r at hr
  unfold Pt at *
  have hc : r = 0 ∨ r = 1 ∨ r = 2 ∨ r = 3 ∨ r = 4 ∨ r = 5 ∨ r = 6 ∨ r = 7 := by omega
  rcases hc with rfl | rfl | rfl | rfl | rfl | rfl | rfl | rfl <;> simp only [app8, wrap64] <;> omega
theorem trn_inv (k : Int) {c : Int × Int × Int} (h : Pt c.1 c.2.1) : trn (inv k) (trn k c) = c := by
  obtain ⟨x, y, s⟩ := c
  unfold trn
  simp only
  rw [app_inv k x y (pt_i64 h).1 (pt_i64 h).2]
theorem tr_cells (k : Int) {l : List (Int × Int × Int)} (h : rightC l = true) : okCells (l.map (trn k)) ∧ ((l.map (trn k)).map posD).Nodup ∧ (l.map (trn k)).length ≤ 5000 := by
  have hc := okCells_right h
  refine ⟨fun z hz => ?_, ?_, by rw [List.length_map]; exact (rightC_ok h).1⟩
  · obtain ⟨c, hm, rfl⟩ := List.mem_map.1 hz
    exact ⟨app_pt k (hc c hm).1, (hc c hm).2⟩
  · rw [List.map_map]
    have hn := nodup_pos (rightC_sorted h)
    unfold List.Nodup at hn ⊢
    rw [List.pairwise_map] at hn ⊢
    refine hn.imp_of_mem fun {a b} ha hb hab e => hab ?_
    have e1 : (trn k a).1 = (trn k b).1 ∧ (trn k a).2.1 = (trn k b).2.1 := posD_same.1 e
    have ia := trn_inv k (c := a) (hc a ha).1
    have ib := trn_inv k (c := b) (hc b hb).1
    have key : ∀ u v : Int × Int × Int, u.1 = v.1 → u.2.1 = v.2.1 → (trn (inv k) u).1 = (trn (inv k) v).1 ∧ (trn (inv k) u).2.1 = (trn (inv k) v).2.1 := fun u v h1 h2 => by unfold trn; simp only; rw [h1, h2]; exact ⟨rfl, rfl⟩
    have := key _ _ e1.1 e1.2
    rw [ia, ib] at this
    exact posD_same.2 this
theorem tr_len (k : Int) (l : List (Int × Int × Int)) : (trL k l).length = l.length := by unfold trL; rw [(srtC_perm _).length_eq, List.length_map]
theorem sort_fin {l' m : List (Int × Int × Int)} (hp : l'.Perm m) (hw : WC l') (hn : (m.map posD).Nodup) : srtC m = l' :=
  srt_eq hn (ssc_iff.2 ⟨hw, (hp.map posD).nodup_iff.2 hn⟩) fun z => hp.mem_iff
theorem map_step {α β : Type} {l : List α} {j : Nat} {c : α} (f : α → β) (h : l[j]? = some c) : (l.take (j + 1)).map f = (l.take j).map f ++ [f c] := by
  rw [List.take_add_one, List.map_append, h]; rfl
end Go.Proofs.YtellglbmbocgkaaGreatDoor
end
