/- Plain arithmetic of the eight symmetries: no program in sight. Plain facts on lists: membership and equality as the programs test them. Lists of positions: the first index of one. Valid neighbourhoods: plain facts. Plain arithmetic on positions and boxes: no program in sight. Plain facts on boxes: meet, join, grow, around, the positions of a box. No program in sight. Plain facts on patterns: lists of cells. No program in sight. Plain facts on building patterns out of cells in any order. No program in sight. Plain laws on patterns: moving back, states after setting and building, the order. No program in sight. Plain: things at positions, in the order of their positions, each position once. No program in sight. Plain: lists of changes of patterns. No program in sight. Plain: laws of changes: what is applied, back and forth. No program in sight. Plain: timelines. A frame is a generation, whether it is whole, its cells, its changes. No program in sight. Plain facts on the algebra of patterns: what its functions and their references compute, and its laws. No program in sight. Plain facts on connected parts of a list of cells. No program in sight. Plain: valid rule trees and what they answer. No program in sight. Plain: the next generation of a pattern under a quiet rule. No program in sight. Plain: errors, runs, moves, and patterns far apart under a quiet rule. No program in sight. Plain: what the calls on timelines answer, and their laws. No program in sight. Plain: patterns far apart evolve each for itself. No program in sight. Plain: a pattern as a function of the position, as a map is filled with it. No program in sight. -/
import Derived.WalkKit
import Derived.Laws.BitsLemmas
set_option linter.unusedSimpArgs false
set_option linter.unusedVariables false
section
namespace Go.Proofs.YtellglbmbocgkaaGreatDoor
open Go Go.RowKit
def firstAt (p : Nat → Bool) : Nat → Int
  | 0 => -1
  | n + 1 => match firstAt p n with
    | -1 => if p n then n else -1
    | r => r
theorem firstAt_none {p : Nat → Bool} : ∀ {n : Nat}, (∀ i, i < n → p i = false) → firstAt p n = -1
  | 0, _ => rfl
  | n + 1, h => by
    have h1 := firstAt_none (p := p) (n := n) (fun i hi => h i (by omega))
    simp [firstAt, h1, h n (by omega)]
theorem firstAt_nonneg {p : Nat → Bool} {i : Nat} (hi : p i = true) (hj : ∀ j, j < i → p j = false) : ∀ {n : Nat}, i < n → firstAt p n = (i : Int)
  | 0, h => absurd h (by omega)
  | n + 1, h => by
    by_cases e : i = n
    · subst e
      have h1 := firstAt_none (p := p) (n := i) hj
      simp [firstAt, h1, hi]
    · have h1 := firstAt_nonneg hi hj (n := n) (by omega)
      simp only [firstAt, h1]
      split
      · rename_i h2; omega
      · rename_i h2; rfl
theorem first_step {p : Nat → Bool} {j : Nat} (h : ∀ r, r < j → p r = false) (hj : p j = false) : ∀ r, r < j + 1 → p r = false := by
  intro r hr
  by_cases e : r = j
  · rw [e]; exact hj
  · exact h r (by omega)
def I64 (n : Int) : Prop := -9223372036854775808 ≤ n ∧ n ≤ 9223372036854775807
end Go.Proofs.YtellglbmbocgkaaGreatDoor
end
section
namespace Go.Proofs.YtellglbmbocgkaaGreatDoor
open Go Go.RowKit
def sameL {α : Type} [DecidableEq α] (a b : List α) : Bool := decide (a = b)
theorem sameL_len {α : Type} [DecidableEq α] {a b : List α} {n m : Nat} (ha : a.length = n) (hb : b.length = m) (h : n ≠ m) : sameL a b = false :=
  decide_eq_false fun e => h (by rw [← ha, ← hb, e])
theorem sameL_ne {α : Type} [DecidableEq α] {a b : List α} {j : Nat} {x y : α} (hx : a[j]? = some x) (hy : b[j]? = some y) (h : x ≠ y) : sameL a b = false :=
  decide_eq_false fun e => h (by rw [e, hy] at hx; exact (Option.some.inj hx).symm)
theorem sameL_all {α : Type} [DecidableEq α] {a b : List α} {n : Nat} (ha : a.length = n) (hb : b.length = n) (h : ∀ i, i < n → a[i]? = b[i]?) : sameL a b = true :=
  decide_eq_true (List.ext_getElem? fun i => by
    by_cases hi : i < n
    · exact h i hi
    · rw [List.getElem?_eq_none (by omega), List.getElem?_eq_none (by omega)])
theorem same_step {α : Type} {a b : List α} {j : Nat} (h : ∀ i, i < j → a[i]? = b[i]?) (hj : a[j]? = b[j]?) : ∀ i, i < j + 1 → a[i]? = b[i]? := by
  intro i hi
  by_cases e : i = j
  · rw [e]; exact hj
  · exact h i (by omega)
end Go.Proofs.YtellglbmbocgkaaGreatDoor
end
section
namespace Go.Proofs.YtellglbmbocgkaaGreatDoor
open Go Go.RowKit
def isAt (l : List (Int × Int)) (x y : Int) (i : Nat) : Bool := decide (l[i]? = some (x, y))
def idxP (l : List (Int × Int)) (x y : Int) : Int := firstAt (isAt l x y) l.length
theorem isAt_no {l : List (Int × Int)} {x y a b : Int} {i : Nat} (h : l[i]? = some (a, b)) (hne : ¬a = x ∨ ¬b = y) : isAt l x y i = false := by
  unfold isAt; rw [h]; simp; intro h1; rcases hne with h2 | h2
  · exact absurd h1 h2
  · exact h2
theorem isAt_yes {l : List (Int × Int)} {x y : Int} {i : Nat} (h : l[i]? = some (x, y)) : isAt l x y i = true := by
  unfold isAt; rw [h]; simp
theorem idxP_found {l : List (Int × Int)} {n : Nat} {x y : Int} {i : Nat} (hl : l.length = n) (hi : i < n) (h : l[i]? = some (x, y)) (hno : ∀ r, r < i → isAt l x y r = false) : (i : Int) = idxP l x y := by
  unfold idxP; rw [hl]; exact (firstAt_nonneg (isAt_yes h) hno hi).symm
theorem idxP_none {l : List (Int × Int)} {n : Nat} {x y : Int} (hl : l.length = n) (hno : ∀ r, r < n → isAt l x y r = false) : (-1 : Int) = idxP l x y := by
  unfold idxP; rw [hl]; exact (firstAt_none hno).symm
end Go.Proofs.YtellglbmbocgkaaGreatDoor
end
section
namespace Go.Proofs.YtellglbmbocgkaaGreatDoor
open Go Go.RowKit
def cmpI (a b : Int) : Int := if a < b then -1 else if b < a then 1 else 0
def orI (a b : Int) : Int := if a = 0 then b else a
def cmpP (ax ay bx bx' : Int) : Int := orI (cmpI ay bx') (cmpI ax bx)
def befP (ax ay bx bx' : Int) : Bool := decide (ay < bx' ∨ ay = bx' ∧ ax < bx)
theorem cmpP_bef (ax ay bx bx' : Int) : decide (0 ≤ cmpP ax ay bx bx') = !befP ax ay bx bx' := by
  unfold cmpP befP orI cmpI
  rw [Bool.eq_iff_iff]
  simp only [decide_eq_true_eq, Bool.not_eq_true', decide_eq_false_iff_not]
  repeat' split
  all_goals omega
def inR (n : Int) : Bool := decide (-2 ≤ n ∧ n ≤ 2)
/-- The element i is in range and behind the one ahead of it. -/
def okAt (l : List (Int × Int)) (i : Nat) : Bool := match l[i]? with
  | none => true
  | some p => inR p.1 && inR p.2 && (i == 0 || (match l[i - 1]? with | none => true | some q => befP q.1 q.2 p.1 p.2))
def rightL (l : List (Int × Int)) : Bool := decide (1 ≤ l.length ∧ l.length ≤ 25) && (List.range l.length).all (okAt l)
theorem rightL_len {l : List (Int × Int)} {n : Nat} (hl : l.length = n) (h : n < 1 ∨ 25 < n) : rightL l = false := by
  unfold rightL; rw [hl, decide_eq_false (by omega)]; rfl
theorem rightL_bad {l : List (Int × Int)} {n j : Nat} (hl : l.length = n) (hj : j < n) (h : okAt l j = false) : rightL l = false := by
  unfold rightL
  rw [hl, Bool.and_eq_false_iff]
  right
  rw [List.all_eq_false]
  exact ⟨j, by simpa using hj, by simp [h]⟩
theorem rightL_all {l : List (Int × Int)} {n : Nat} (hl : l.length = n) (h1 : 1 ≤ n) (h2 : n ≤ 25) (h : ∀ j, j < n → okAt l j = true) : rightL l = true := by
  unfold rightL
  rw [hl, decide_eq_true (by omega), Bool.true_and, List.all_eq_true]
  intro j hj
  exact h j (by simpa using hj)
theorem ok_step {l : List (Int × Int)} {j : Nat} (h : ∀ r, r < j → okAt l r = true) (hj : okAt l j = true) : ∀ r, r < j + 1 → okAt l r = true := by
  intro r hr
  by_cases e : r = j
  · rw [e]; exact hj
  · exact h r (by omega)
theorem okAt_out {l : List (Int × Int)} {j : Nat} {x y : Int} (hx : l[j]? = some (x, y)) (h : x < -2 ∨ 2 < x ∨ y < -2 ∨ 2 < y) : okAt l j = false := by
  unfold okAt
  rw [hx]
  have : (inR x && inR y) = false := by unfold inR; rw [Bool.eq_false_iff]; simp only [ne_eq, Bool.and_eq_true, decide_eq_true_eq]; omega
  simp only [this, Bool.false_and]
theorem okAt_first {l : List (Int × Int)} {x y : Int} (hx : l[0]? = some (x, y)) (h : -2 ≤ x ∧ x ≤ 2 ∧ -2 ≤ y ∧ y ≤ 2) : okAt l 0 = true := by
  unfold okAt
  rw [hx]
  have : (inR x && inR y) = true := by unfold inR; simp only [Bool.and_eq_true, decide_eq_true_eq]; omega
  simp only [this]; rfl
theorem okAt_next {l : List (Int × Int)} {j : Nat} {x y a b : Int} (hj : 0 < j) (hx : l[j]? = some (x, y)) (hp : l[j - 1]? = some (a, b)) (h : -2 ≤ x ∧ x ≤ 2 ∧ -2 ≤ y ∧ y ≤ 2) : okAt l j = befP a b x y := by
  unfold okAt
  rw [hx, hp]
  have h1 : (inR x && inR y) = true := by unfold inR; simp only [Bool.and_eq_true, decide_eq_true_eq]; omega
  have h2 : (j == 0) = false := by simp; omega
  simp only [h1, h2]; rfl
end Go.Proofs.YtellglbmbocgkaaGreatDoor
end
section
namespace Go.Proofs.YtellglbmbocgkaaGreatDoor
open Go Go.RowKit
def validB (x y : Int) : Bool := decide (-1048576 ≤ x ∧ x ≤ 1048576 ∧ -1048576 ≤ y ∧ y ≤ 1048576)
end Go.Proofs.YtellglbmbocgkaaGreatDoor
end
section
namespace Go.Proofs.YtellglbmbocgkaaGreatDoor
open Go Go.RowKit
def Pt (x y : Int) : Prop := -1048576 ≤ x ∧ x ≤ 1048576 ∧ -1048576 ≤ y ∧ y ≤ 1048576
section
variable {l : List (Int × Int)} {j : Nat} {x y d : Int}
end
theorem validB_iff {x y : Int} : validB x y = true ↔ Pt x y := by unfold validB Pt; simp
end Go.Proofs.YtellglbmbocgkaaGreatDoor
end
section
namespace Go.Proofs.YtellglbmbocgkaaGreatDoor
open Go Go.RowKit
def cBef (a b : Int × Int × Int) : Bool := befP a.1 a.2.1 b.1 b.2.1
def cmpO (a b : Int × Int × Int) : Int := cmpP a.1 a.2.1 b.1 b.2.1
def okC (l : List (Int × Int × Int)) (i : Nat) : Bool := match l[i]? with
  | none => true
  | some p => validB p.1 p.2.1 && decide (1 ≤ p.2.2 ∧ p.2.2 ≤ 7) && (i == 0 || (match l[i - 1]? with | none => true | some q => cBef q p))
def rightC (l : List (Int × Int × Int)) : Bool := decide (l.length ≤ 5000) && (List.range l.length).all (okC l)
section
variable {l : List (Int × Int × Int)} {n j : Nat} {x y s a b c : Int}
theorem rightC_len (hl : l.length = n) (h : 5000 < n) : rightC l = false := by
  unfold rightC; rw [hl, decide_eq_false (by omega)]; rfl
theorem rightC_bad (hl : l.length = n) (hj : j < n) (h : okC l j = false) : rightC l = false := by
  unfold rightC
  rw [hl, Bool.and_eq_false_iff]
  right
  rw [List.all_eq_false]
  exact ⟨j, by simpa using hj, by simp [h]⟩
theorem rightC_all (hl : l.length = n) (h2 : n ≤ 5000) (h : ∀ j, j < n → okC l j = true) : rightC l = true := by
  unfold rightC
  rw [hl, decide_eq_true (by omega), Bool.true_and, List.all_eq_true]
  intro j hj
  exact h j (by simpa using hj)
theorem okC_step (h : ∀ r, r < j → okC l r = true) (hj : okC l j = true) : ∀ r, r < j + 1 → okC l r = true := by
  intro r hr
  by_cases e : r = j
  · rw [e]; exact hj
  · exact h r (by omega)
theorem okC_place (hx : l[j]? = some (x, y, s)) (h : validB x y = false) : okC l j = false := by
  unfold okC; rw [hx]; simp only [h, Bool.false_and]
theorem okC_state (hx : l[j]? = some (x, y, s)) (h : s < 1 ∨ 7 < s) : okC l j = false := by
  unfold okC; rw [hx]
  have : decide (1 ≤ s ∧ s ≤ 7) = false := decide_eq_false (by omega)
  simp only [this, Bool.and_false, Bool.false_and]
theorem okC_first (hx : l[0]? = some (x, y, s)) (hv : validB x y = true) (h : 1 ≤ s ∧ s ≤ 7) : okC l 0 = true := by
  unfold okC; rw [hx]
  have : decide (1 ≤ s ∧ s ≤ 7) = true := decide_eq_true h
  simp only [this, hv]; rfl
theorem okC_next (hj : 0 < j) (hx : l[j]? = some (x, y, s)) (hp : l[j - 1]? = some (a, b, c)) (hv : validB x y = true) (h : 1 ≤ s ∧ s ≤ 7) : okC l j = befP a b x y := by
  unfold okC; rw [hx, hp]
  have h1 : decide (1 ≤ s ∧ s ≤ 7) = true := decide_eq_true h
  have h2 : (j == 0) = false := by simp; omega
  simp only [h1, hv, h2]; rfl
theorem rightC_ok (h : rightC l = true) : l.length ≤ 5000 ∧ ∀ j, okC l j = true := by
  unfold rightC at h
  rw [Bool.and_eq_true, List.all_eq_true, decide_eq_true_eq] at h
  refine ⟨h.1, fun j => ?_⟩
  by_cases hj : j < l.length
  · exact h.2 j (by simpa using hj)
  · unfold okC; rw [List.getElem?_eq_none (by omega)]
theorem rightC_elem (h : rightC l = true) (hx : l[j]? = some (x, y, s)) : Pt x y ∧ 1 ≤ s ∧ s ≤ 7 := by
  have := (rightC_ok h).2 j
  unfold okC at this
  rw [hx] at this
  simp only [Bool.and_eq_true, decide_eq_true_eq] at this
  exact ⟨validB_iff.1 this.1.1, this.1.2.1, this.1.2.2⟩
end
theorem cBef_irr (a : Int × Int × Int) : cBef a a = false := by unfold cBef befP; exact decide_eq_false (by omega)
theorem cBef_tr {a b c : Int × Int × Int} (h1 : cBef a b = true) (h2 : cBef b c = true) : cBef a c = true := by
  unfold cBef befP at *; simp only [decide_eq_true_eq] at *; omega
def SSC (l : List (Int × Int × Int)) : Prop := l.Pairwise fun a b => cBef a b = true
theorem pairwise_of_next {α : Type} {r : α → α → Prop} (tr : ∀ a b c, r a b → r b c → r a c) : ∀ (l : List α), (∀ j a b, l[j]? = some a → l[j + 1]? = some b → r a b) → l.Pairwise r
  | [], _ => List.Pairwise.nil
  | [a], _ => by simp
  | a :: b :: l, h => by
    have ih := pairwise_of_next tr (b :: l) (fun j x y hx hy => h (j + 1) x y (by simpa using hx) (by simpa using hy))
    refine List.pairwise_cons.2 ⟨fun x hx => ?_, ih⟩
    have hab : r a b := h 0 a b rfl rfl
    rcases List.mem_cons.1 hx with rfl | hm
    · exact hab
    · exact tr _ _ _ hab ((List.pairwise_cons.1 ih).1 x hm)
theorem rightC_sorted {l : List (Int × Int × Int)} (h : rightC l = true) : SSC l := by
  refine pairwise_of_next (r := fun a b => cBef a b = true) (fun a b c h1 h2 => cBef_tr h1 h2) l fun j p q hp hq => ?_
  have := (rightC_ok h).2 (j + 1)
  unfold okC at this
  rw [hq, show j + 1 - 1 = j by omega, hp] at this
  simp only [Bool.and_eq_true, Bool.or_eq_true] at this
  rcases this.2 with h0 | h0
  · simp at h0
  · exact h0
theorem rightC_of {l : List (Int × Int × Int)} (h1 : l.length ≤ 5000) (h2 : ∀ p, p ∈ l → Pt p.1 p.2.1 ∧ 1 ≤ p.2.2 ∧ p.2.2 ≤ 7) (h3 : SSC l) : rightC l = true := by
  refine rightC_all rfl h1 fun j hj => ?_
  obtain ⟨p, hp⟩ : ∃ p, p = l[j] := ⟨_, rfl⟩
  obtain ⟨x, y, s⟩ := p
  have hx : l[j]? = some (x, y, s) := by rw [List.getElem?_eq_getElem hj, ← hp]
  have hm := h2 _ (List.mem_of_getElem? hx)
  have hv := validB_iff.2 hm.1
  rcases Nat.eq_zero_or_pos j with rfl | h0
  · exact okC_first hx hv hm.2
  · have hj1 : j - 1 < l.length := by omega
    obtain ⟨q, hq⟩ : ∃ q, q = l[j - 1] := ⟨_, rfl⟩
    obtain ⟨a, b, c⟩ := q
    have hy : l[j - 1]? = some (a, b, c) := by rw [List.getElem?_eq_getElem hj1, ← hq]
    rw [okC_next h0 hx hy hv hm.2]
    have := (List.pairwise_iff_getElem.1 h3) (j - 1) j (by omega) hj (by omega)
    rw [← hp, ← hq] at this
    exact this
def getC : List (Int × Int × Int) → Int → Int → Int
  | [], _, _ => 0
  | c :: l, x, y => if c.1 = x ∧ c.2.1 = y then c.2.2 else getC l x y
def topC (l : List (Int × Int × Int)) : Int := l.foldl (fun m p => max m p.2.2) 0
theorem topC_step {l : List (Int × Int × Int)} {j : Nat} {x y s : Int} (h : l[j]? = some (x, y, s)) : topC (l.take (j + 1)) = max (topC (l.take j)) s := by
  unfold topC; rw [List.take_add_one, List.foldl_append, h]; rfl
def cmpC (a b : Int × Int × Int) : Int := orI (cmpO a b) (cmpI a.2.2 b.2.2)
def cmpL : List (Int × Int × Int) → List (Int × Int × Int) → Int
  | [], [] => 0
  | [], _ :: _ => -1
  | _ :: _, [] => 1
  | a :: l, b :: r => if a = b then cmpL l r else cmpC a b
theorem cmpC_zero {a b : Int × Int × Int} (h : cmpC a b = 0) : a = b := by
  obtain ⟨a1, a2, a3⟩ := a
  obtain ⟨b1, b2, b3⟩ := b
  unfold cmpC cmpO cmpP orI cmpI at h
  simp only [Prod.mk.injEq]
  simp only at h
  split at h <;> (repeat' split at h) <;> omega
theorem cmpL_skip : ∀ {l r : List (Int × Int × Int)} {j : Nat}, j ≤ l.length → j ≤ r.length → (∀ i, i < j → l[i]? = r[i]?) → cmpL l r = cmpL (l.drop j) (r.drop j)
  | l, r, 0, _, _, _ => rfl
  | [], r, j + 1, h, _, _ => by simp at h
  | a :: l, [], j + 1, _, h, _ => by simp at h
  | a :: l, b :: r, j + 1, h1, h2, h => by
    have e : a = b := by have := h 0 (by omega); simpa using this
    subst e
    show (if a = a then cmpL l r else cmpC a a) = cmpL (l.drop j) (r.drop j)
    rw [if_pos rfl]
    exact cmpL_skip (by simpa using h1) (by simpa using h2) fun i hi => by have := h (i + 1) (by omega); simpa using this
theorem cmpL_at {l r : List (Int × Int × Int)} {j : Nat} {a b : Int × Int × Int} (h : ∀ i, i < j → l[i]? = r[i]?) (ha : l[j]? = some a) (hb : r[j]? = some b) (hne : a ≠ b) : cmpL l r = cmpC a b := by
  have h1 := (List.getElem?_eq_some_iff.1 ha).1
  have h2 := (List.getElem?_eq_some_iff.1 hb).1
  rw [cmpL_skip (by omega) (by omega) h, List.drop_eq_getElem_cons h1, List.drop_eq_getElem_cons h2]
  unfold cmpL
  rw [(List.getElem?_eq_some_iff.1 ha).2, (List.getElem?_eq_some_iff.1 hb).2, if_neg hne]
theorem cmpL_end {l r : List (Int × Int × Int)} {n m j : Nat} (hl : l.length = n) (hr : r.length = m) (hj : j ≤ n) (hk : j ≤ m) (h : ∀ i, i < j → l[i]? = r[i]?) (he : j = n ∨ j = m) : cmpL l r = cmpI n m := by
  rw [cmpL_skip (by omega) (by omega) h]
  unfold cmpI
  rcases he with rfl | rfl
  · rw [List.drop_of_length_le (by omega)]
    by_cases e : j = m
    · rw [List.drop_of_length_le (by omega), if_neg (by omega), if_neg (by omega)]; rfl
    · rw [List.drop_eq_getElem_cons (by omega), if_pos (by omega)]; rfl
  · rw [List.drop_of_length_le (by omega : r.length ≤ j)]
    by_cases e : j = n
    · rw [List.drop_of_length_le (by omega), if_neg (by omega), if_neg (by omega)]; rfl
    · rw [List.drop_eq_getElem_cons (by omega), if_neg (by omega), if_pos (by omega)]; rfl
end Go.Proofs.YtellglbmbocgkaaGreatDoor
end
section
namespace Go.Proofs.YtellglbmbocgkaaGreatDoor
open Go Go.RowKit
/-- What is wrong with one cell. -/
def frBad (c : Int × Int × Int) : Int := if validB c.1 c.2.1 = true then (if 0 ≤ c.2.2 ∧ c.2.2 ≤ 7 then 0 else 10) else 5
def frFirst : List (Int × Int × Int) → Int
  | [] => 0
  | c :: l => if frBad c = 0 then frFirst l else frBad c
theorem frFirst_bad : ∀ {l : List (Int × Int × Int)} {j : Nat} {c : Int × Int × Int} {e : Int}, (∀ i d, i < j → l[i]? = some d → frBad d = 0) → l[j]? = some c → frBad c = e → e ≠ 0 → frFirst l = e
  | [], j, c, e, _, h, _, _ => by simp at h
  | d :: l, 0, c, e, _, h, he, hn => by
    have : d = c := by simpa using h
    subst this
    unfold frFirst
    rw [he, if_neg hn]
  | d :: l, j + 1, c, e, hg, h, he, hn => by
    unfold frFirst
    rw [if_pos (hg 0 d (by omega) rfl)]
    exact frFirst_bad (fun i x hi hx => hg (i + 1) x (Nat.succ_lt_succ hi) (by simpa using hx)) (by simpa using h) he hn
theorem frFirst_good : ∀ {l : List (Int × Int × Int)}, (∀ (i : Nat) d, l[i]? = some d → frBad d = 0) → frFirst l = 0
  | [], _ => rfl
  | d :: l, hg => by
    unfold frFirst
    rw [if_pos (hg 0 d rfl)]
    exact frFirst_good fun i x hx => hg (i + 1) x (by simpa using hx)
/-- The cells with a state. -/
def nzC (c : Int × Int × Int) : Bool := decide (0 < c.2.2)
def nz (l : List (Int × Int × Int)) : List (Int × Int × Int) := l.filter nzC
theorem nz_step {l : List (Int × Int × Int)} {j : Nat} {c : Int × Int × Int} (h : l[j]? = some c) : nz (l.take (j + 1)) = nz (l.take j) ++ (if nzC c = true then [c] else []) := by
  unfold nz
  rw [List.take_add_one, List.filter_append, h]
  simp [List.filter_cons]
/-- Insertion behind those at the same position. -/
def insC : List (Int × Int × Int) → Int × Int × Int → List (Int × Int × Int)
  | [], c => [c]
  | d :: p, c => if cBef c d = true then c :: d :: p else d :: insC p c
def srtC (l : List (Int × Int × Int)) : List (Int × Int × Int) := l.foldl insC []
/-- No cell stands ahead of one that it is behind. -/
def WC (l : List (Int × Int × Int)) : Prop := l.Pairwise fun a b => cBef b a = false
theorem insC_perm : ∀ (p : List (Int × Int × Int)) (c : Int × Int × Int), (insC p c).Perm (c :: p)
  | [], c => List.Perm.refl _
  | d :: p, c => by
    unfold insC
    split
    · exact List.Perm.refl _
    · exact (List.Perm.cons d (insC_perm p c)).trans (List.Perm.swap c d p)
theorem cBef_asym {a b : Int × Int × Int} (h : cBef a b = true) : cBef b a = false := by
  unfold cBef befP at *; simp only [decide_eq_true_eq, decide_eq_false_iff_not] at *; omega
theorem cBef_weak {a b c : Int × Int × Int} (h1 : cBef a b = true) (h2 : cBef c b = false) : cBef c a = false := by
  unfold cBef befP at *; simp only [decide_eq_true_eq, decide_eq_false_iff_not] at *; omega
theorem insC_wc : ∀ (p : List (Int × Int × Int)) (c : Int × Int × Int), WC p → WC (insC p c)
  | [], c, _ => by simp [insC, WC]
  | d :: p, c, h => by
    unfold WC at h
    obtain ⟨h1, h2⟩ := List.pairwise_cons.1 h
    unfold insC
    split
    · rename_i hc
      refine List.pairwise_cons.2 ⟨fun x hx => ?_, h⟩
      rcases List.mem_cons.1 hx with rfl | hm
      · exact cBef_asym hc
      · exact cBef_weak hc (h1 x hm)
    · rename_i hc
      refine List.pairwise_cons.2 ⟨fun x hx => ?_, insC_wc p c h2⟩
      rcases List.mem_cons.1 ((insC_perm p c).mem_iff.1 hx) with rfl | hm
      · simpa using hc
      · exact h1 x hm
theorem srtC_aux : ∀ (l o : List (Int × Int × Int)), WC o → WC (l.foldl insC o) ∧ (l.foldl insC o).Perm (l ++ o)
  | [], o, h => ⟨h, List.Perm.refl _⟩
  | c :: l, o, h => by
    obtain ⟨h1, h2⟩ := srtC_aux l (insC o c) (insC_wc o c h)
    refine ⟨h1, h2.trans ?_⟩
    exact ((insC_perm o c).append_left l).trans List.perm_middle
theorem srtC_wc (l : List (Int × Int × Int)) : WC (srtC l) := (srtC_aux l [] List.Pairwise.nil).1
theorem srtC_perm (l : List (Int × Int × Int)) : (srtC l).Perm l := by
  have := (srtC_aux l [] List.Pairwise.nil).2
  simpa [srtC] using this
def posD (c : Int × Int × Int) : Int × Int := (c.1, c.2.1)
theorem ssc_iff {l : List (Int × Int × Int)} : SSC l ↔ WC l ∧ (l.map posD).Nodup := by
  unfold SSC WC List.Nodup
  rw [List.pairwise_map]
  constructor
  · intro h
    refine ⟨h.imp fun hab => cBef_asym hab, h.imp fun {a b} hab e => ?_⟩
    unfold posD at e
    injection e with e1 e2
    unfold cBef befP at hab
    simp only [decide_eq_true_eq] at hab
    omega
  · rintro ⟨h1, h2⟩
    rw [List.pairwise_iff_getElem] at *
    intro i j hi hj hij
    have a := h1 i j hi hj hij
    have b := h2 i j hi hj hij
    unfold posD at b
    unfold cBef befP at *
    simp only [decide_eq_true_eq, decide_eq_false_iff_not] at *
    rcases Classical.em (l[j].2.1 = l[i].2.1) with e | e
    · rcases Classical.em (l[j].1 = l[i].1) with f | f
      · exact absurd (by rw [e, f]) b
      · omega
    · omega
theorem ssc_unique : ∀ (a b : List (Int × Int × Int)), SSC a → SSC b → (∀ x, x ∈ a ↔ x ∈ b) → a = b
  | [], [], _, _, _ => rfl
  | [], y :: b, _, _, he => absurd ((he y).2 (by simp)) (by simp)
  | x :: a, [], _, _, he => absurd ((he x).1 (by simp)) (by simp)
  | x :: a, y :: b, ha, hb, he => by
    obtain ⟨h1, h2⟩ := List.pairwise_cons.1 ha
    obtain ⟨h3, h4⟩ := List.pairwise_cons.1 hb
    have hxy : x = y := by
      rcases List.mem_cons.1 ((he x).1 (by simp)) with e | hm
      · exact e
      · rcases List.mem_cons.1 ((he y).2 (by simp)) with e | hm2
        · exact e.symm
        · have := cBef_asym (h3 x hm)
          rw [h1 y hm2] at this; cases this
    subst hxy
    rw [ssc_unique a b h2 h4 fun z => ?_]
    constructor
    · intro hz
      rcases List.mem_cons.1 ((he z).1 (by simp [hz])) with e | hm
      · subst e; have := h1 z hz; rw [cBef_irr] at this; cases this
      · exact hm
    · intro hz
      rcases List.mem_cons.1 ((he z).2 (by simp [hz])) with e | hm
      · subst e; have := h3 z hz; rw [cBef_irr] at this; cases this
      · exact hm
theorem ssc_perm {l m : List (Int × Int × Int)} (hp : l.Perm m) (hl : WC l) (hm : WC m) : SSC l ↔ SSC m := by
  rw [ssc_iff, ssc_iff]
  have := (hp.map posD).nodup_iff
  exact ⟨fun ⟨_, h⟩ => ⟨hm, this.1 h⟩, fun ⟨_, h⟩ => ⟨hl, this.2 h⟩⟩
/-- Each cell is ahead of the next one. -/
def ssB : List (Int × Int × Int) → Bool
  | [] => true
  | [_] => true
  | a :: b :: l => cBef a b && ssB (b :: l)
theorem ssB_iff : ∀ {l : List (Int × Int × Int)}, ssB l = true ↔ SSC l
  | [] => by simp [ssB, SSC]
  | [a] => by simp [ssB, SSC]
  | a :: b :: l => by
    have ih := ssB_iff (l := b :: l)
    unfold ssB
    rw [Bool.and_eq_true, ih]
    constructor
    · rintro ⟨h1, h2⟩
      refine List.pairwise_cons.2 ⟨fun x hx => ?_, h2⟩
      rcases List.mem_cons.1 hx with rfl | hm
      · exact h1
      · exact cBef_tr h1 ((List.pairwise_cons.1 h2).1 x hm)
    · intro h
      obtain ⟨h1, h2⟩ := List.pairwise_cons.1 h
      exact ⟨h1 b (by simp), h2⟩
/-- The code that From returns, and the pattern. -/
def frE (l : List (Int × Int × Int)) : Int := if frFirst l = 0 then (if ssB (srtC (nz l)) = true then (if (nz l).length ≤ 5000 then 0 else 6) else 8) else frFirst l
def frL (l : List (Int × Int × Int)) : List (Int × Int × Int) := if frE l = 0 then srtC (nz l) else []
theorem frL_no {l : List (Int × Int × Int)} {e : Int} (h : frE l = e) (hn : e ≠ 0) : frL l = [] := by unfold frL; rw [if_neg (by rw [h]; exact hn)]
theorem frL_ok {l : List (Int × Int × Int)} (h : frE l = 0) : frL l = srtC (nz l) := by unfold frL; rw [if_pos h]
theorem frE_first {l : List (Int × Int × Int)} {e : Int} (h : frFirst l = e) (hn : e ≠ 0) : frE l = e := by unfold frE; rw [h, if_neg hn]
theorem frE_twice {l : List (Int × Int × Int)} (h : frFirst l = 0) (hs : ssB (srtC (nz l)) = false) : frE l = 8 := by unfold frE; rw [if_pos h, if_neg (by rw [hs]; simp)]
theorem frE_size {l : List (Int × Int × Int)} (h : frFirst l = 0) (hs : ssB (srtC (nz l)) = true) (hz : 5000 < (nz l).length) : frE l = 6 := by unfold frE; rw [if_pos h, if_pos hs, if_neg (by omega)]
theorem frE_ok {l : List (Int × Int × Int)} (h : frFirst l = 0) (hs : ssB (srtC (nz l)) = true) (hz : (nz l).length ≤ 5000) : frE l = 0 := by unfold frE; rw [if_pos h, if_pos hs, if_pos hz]
/-- A sorted list of the cells whose neighbours stand at different positions is the pattern. -/
theorem sorted_distinct {l' m : List (Int × Int × Int)} (hp : l'.Perm m) (hw : WC l') (hd : ∀ j a b, l'[j]? = some a → l'[j + 1]? = some b → posD a ≠ posD b) : ssB (srtC m) = true ∧ srtC m = l' := by
  have hs : SSC l' := by
    refine pairwise_of_next (r := fun a b => cBef a b = true) (fun a b c h1 h2 => cBef_tr h1 h2) l' fun j a b ha hb => ?_
    have h1 := (List.getElem?_eq_some_iff.1 ha)
    have h2 := (List.getElem?_eq_some_iff.1 hb)
    have hwk := (List.pairwise_iff_getElem.1 hw) j (j + 1) h1.1 h2.1 (by omega)
    rw [h1.2, h2.2] at hwk
    have hne := hd j a b ha hb
    unfold posD at hne
    unfold cBef befP at *
    simp only [decide_eq_true_eq, decide_eq_false_iff_not] at *
    rcases Classical.em (b.2.1 = a.2.1) with e | e
    · rcases Classical.em (b.1 = a.1) with f | f
      · exact absurd (by rw [e, f]) hne
      · omega
    · omega
  have hsm : SSC (srtC m) := (ssc_perm ((srtC_perm m).trans hp.symm) (srtC_wc m) hw).2 hs
  exact ⟨ssB_iff.2 hsm, ssc_unique _ _ hsm hs fun x => ((srtC_perm m).trans hp.symm).mem_iff⟩
/-- Two neighbours at one position: it is none. -/
theorem sorted_twice {l' m : List (Int × Int × Int)} {j : Nat} {a b : Int × Int × Int} (hp : l'.Perm m) (hw : WC l') (ha : l'[j]? = some a) (hb : l'[j + 1]? = some b) (he : posD a = posD b) : ssB (srtC m) = false := by
  rw [Bool.eq_false_iff]
  intro h
  have hs := (ssc_perm ((srtC_perm m).trans hp.symm) (srtC_wc m) hw).1 (ssB_iff.1 h)
  have h1 := (List.getElem?_eq_some_iff.1 ha)
  have h2 := (List.getElem?_eq_some_iff.1 hb)
  have := (List.pairwise_iff_getElem.1 hs) j (j + 1) h1.1 h2.1 (by omega)
  rw [h1.2, h2.2] at this
  unfold posD at he
  injection he with e1 e2
  unfold cBef befP at this
  simp only [decide_eq_true_eq] at this
  omega
end Go.Proofs.YtellglbmbocgkaaGreatDoor
end
section
namespace Go.Proofs.YtellglbmbocgkaaGreatDoor
open Go Go.RowKit
theorem getC_mem : ∀ {l : List (Int × Int × Int)} {x y s : Int}, SSC l → (x, y, s) ∈ l → getC l x y = s
  | [], _, _, _, _, h => by cases h
  | c :: l, x, y, s, hS, h => by
    obtain ⟨h1, h2⟩ := List.pairwise_cons.1 hS
    unfold getC
    rcases List.mem_cons.1 h with e | hm
    · subst e; rw [if_pos ⟨rfl, rfl⟩]
    · have := h1 _ hm
      rw [if_neg (fun ⟨e1, e2⟩ => by
        unfold cBef befP at this
        simp only [decide_eq_true_eq] at this
        omega)]
      exact getC_mem h2 hm
theorem getC_not : ∀ {l : List (Int × Int × Int)} {x y : Int}, (∀ c ∈ l, ¬(c.1 = x ∧ c.2.1 = y)) → getC l x y = 0
  | [], _, _, _ => rfl
  | c :: l, x, y, h => by
    unfold getC
    rw [if_neg (h c (by simp))]
    exact getC_not fun d hd => h d (by simp [hd])
theorem frE_zero {l : List (Int × Int × Int)} (h : frE l = 0) : frFirst l = 0 ∧ ssB (srtC (nz l)) = true ∧ (nz l).length ≤ 5000 := by
  unfold frE at h
  split at h
  · split at h
    · split at h
      · exact ⟨‹_›, ‹_›, ‹_›⟩
      · cases h
    · cases h
  · exact absurd h ‹_›
theorem frFirst_all : ∀ {l : List (Int × Int × Int)}, frFirst l = 0 → ∀ c ∈ l, frBad c = 0
  | [], _, c, hc => by cases hc
  | d :: l, h, c, hc => by
    unfold frFirst at h
    split at h
    · rcases List.mem_cons.1 hc with rfl | hm
      · assumption
      · exact frFirst_all h c hm
    · exact absurd h ‹_›
theorem frL_right {l : List (Int × Int × Int)} (h : frE l = 0) : rightC (frL l) = true := by
  obtain ⟨h1, h2, h3⟩ := frE_zero h
  rw [frL_ok h]
  refine rightC_of (by rw [(srtC_perm _).length_eq]; exact h3) (fun p hp => ?_) (ssB_iff.1 h2)
  have hm := (srtC_perm _).mem_iff.1 hp
  unfold nz nzC at hm
  obtain ⟨hm, h0⟩ := List.mem_filter.1 hm
  have hb := frFirst_all h1 p hm
  unfold frBad at hb
  simp only [decide_eq_true_eq] at h0
  split at hb
  · rename_i hv
    split at hb
    · exact ⟨validB_iff.1 hv, by omega, by omega⟩
    · cases hb
  · cases hb
end Go.Proofs.YtellglbmbocgkaaGreatDoor
end
section
namespace Go.Proofs.YtellglbmbocgkaaGreatDoor
open Go Go.RowKit
section
variable {σ : Type}
def gBef (a b : Int × Int × σ) : Bool := befP a.1 a.2.1 b.1 b.2.1
def posG (c : Int × Int × σ) : Int × Int := (c.1, c.2.1)
def insG : List (Int × Int × σ) → Int × Int × σ → List (Int × Int × σ)
  | [], c => [c]
  | d :: p, c => if gBef d c = true then d :: insG p c else c :: d :: p
def srtG (l : List (Int × Int × σ)) : List (Int × Int × σ) := l.foldl insG []
def WG (l : List (Int × Int × σ)) : Prop := l.Pairwise fun a b => gBef b a = false
def SSG (l : List (Int × Int × σ)) : Prop := l.Pairwise fun a b => gBef a b = true
theorem gBef_irr (a : Int × Int × σ) : gBef a a = false := by unfold gBef befP; exact decide_eq_false (by omega)
theorem gBef_tr {a b c : Int × Int × σ} (h1 : gBef a b = true) (h2 : gBef b c = true) : gBef a c = true := by
  unfold gBef befP at *; simp only [decide_eq_true_eq] at *; omega
theorem gBef_asym {a b : Int × Int × σ} (h : gBef a b = true) : gBef b a = false := by
  unfold gBef befP at *; simp only [decide_eq_true_eq, decide_eq_false_iff_not] at *; omega
theorem insG_perm : ∀ (p : List (Int × Int × σ)) (c : Int × Int × σ), (insG p c).Perm (c :: p)
  | [], c => List.Perm.refl _
  | d :: p, c => by
    unfold insG
    split
    · exact (List.Perm.cons d (insG_perm p c)).trans (List.Perm.swap c d p)
    · exact List.Perm.refl _
theorem gBef_wt {a b c : Int × Int × σ} (h1 : gBef b a = false) (h2 : gBef c b = false) : gBef c a = false := by
  unfold gBef befP at *; simp only [decide_eq_false_iff_not] at *; omega
theorem insG_wg : ∀ (p : List (Int × Int × σ)) (c : Int × Int × σ), WG p → WG (insG p c)
  | [], c, _ => by simp [insG, WG]
  | d :: p, c, h => by
    unfold WG at h
    obtain ⟨h1, h2⟩ := List.pairwise_cons.1 h
    unfold insG
    split
    · rename_i hc
      refine List.pairwise_cons.2 ⟨fun x hx => ?_, insG_wg p c h2⟩
      rcases List.mem_cons.1 ((insG_perm p c).mem_iff.1 hx) with rfl | hm
      · exact gBef_asym hc
      · exact h1 x hm
    · rename_i hc
      have hc' : gBef d c = false := by simpa using hc
      refine List.pairwise_cons.2 ⟨fun x hx => ?_, h⟩
      rcases List.mem_cons.1 hx with rfl | hm
      · exact hc'
      · exact gBef_wt hc' (h1 x hm)
theorem srtG_aux : ∀ (l o : List (Int × Int × σ)), WG o → WG (l.foldl insG o) ∧ (l.foldl insG o).Perm (l ++ o)
  | [], o, h => ⟨h, List.Perm.refl _⟩
  | c :: l, o, h => by
    obtain ⟨h1, h2⟩ := srtG_aux l (insG o c) (insG_wg o c h)
    exact ⟨h1, h2.trans (((insG_perm o c).append_left l).trans List.perm_middle)⟩
theorem srtG_wg (l : List (Int × Int × σ)) : WG (srtG l) := (srtG_aux l [] List.Pairwise.nil).1
theorem srtG_perm (l : List (Int × Int × σ)) : (srtG l).Perm l := by
  have := (srtG_aux l [] List.Pairwise.nil).2
  simpa [srtG] using this
theorem ssg_iff {l : List (Int × Int × σ)} : SSG l ↔ WG l ∧ (l.map posG).Nodup := by
  unfold SSG WG List.Nodup
  rw [List.pairwise_map]
  constructor
  · intro h
    refine ⟨h.imp fun hab => gBef_asym hab, h.imp fun {a b} hab e => ?_⟩
    unfold posG at e
    injection e with e1 e2
    unfold gBef befP at hab
    simp only [decide_eq_true_eq] at hab
    omega
  · rintro ⟨h1, h2⟩
    rw [List.pairwise_iff_getElem] at *
    intro i j hi hj hij
    have a := h1 i j hi hj hij
    have b := h2 i j hi hj hij
    unfold posG at b
    unfold gBef befP at *
    simp only [decide_eq_true_eq, decide_eq_false_iff_not] at *
    rcases Classical.em (l[j].2.1 = l[i].2.1) with e | e
    · rcases Classical.em (l[j].1 = l[i].1) with f | f
      · exact absurd (by rw [e, f]) b
      · omega
    · omega
theorem ssg_unique : ∀ (a b : List (Int × Int × σ)), SSG a → SSG b → (∀ x, x ∈ a ↔ x ∈ b) → a = b
  | [], [], _, _, _ => rfl
  | [], y :: b, _, _, he => absurd ((he y).2 (by simp)) (by simp)
  | x :: a, [], _, _, he => absurd ((he x).1 (by simp)) (by simp)
  | x :: a, y :: b, ha, hb, he => by
    obtain ⟨h1, h2⟩ := List.pairwise_cons.1 ha
    obtain ⟨h3, h4⟩ := List.pairwise_cons.1 hb
    have hxy : x = y := by
      rcases List.mem_cons.1 ((he x).1 (by simp)) with e | hm
      · exact e
      · rcases List.mem_cons.1 ((he y).2 (by simp)) with e | hm2
        · exact e.symm
        · have := gBef_asym (h3 x hm)
          rw [h1 y hm2] at this; cases this
    subst hxy
    rw [ssg_unique a b h2 h4 fun z => ?_]
    constructor
    · intro hz
      rcases List.mem_cons.1 ((he z).1 (by simp [hz])) with e | hm
      · subst e; have := h1 z hz; rw [gBef_irr] at this; cases this
      · exact hm
    · intro hz
      rcases List.mem_cons.1 ((he z).2 (by simp [hz])) with e | hm
      · subst e; have := h3 z hz; rw [gBef_irr] at this; cases this
      · exact hm
theorem srtG_eq {l m : List (Int × Int × σ)} (hp : l.Perm m) (hl : WG l) (hn : (m.map posG).Nodup) : l = srtG m := by
  have h1 : SSG l := ssg_iff.2 ⟨hl, (hp.map posG).nodup_iff.2 hn⟩
  have h2 : SSG (srtG m) := ssg_iff.2 ⟨srtG_wg m, ((srtG_perm m).map posG).nodup_iff.2 hn⟩
  exact ssg_unique _ _ h1 h2 fun x => (hp.trans (srtG_perm m).symm).mem_iff
theorem srtG_ss {m : List (Int × Int × σ)} (hn : (m.map posG).Nodup) : SSG (srtG m) := ssg_iff.2 ⟨srtG_wg m, ((srtG_perm m).map posG).nodup_iff.2 hn⟩
theorem srtG_congr {l m : List (Int × Int × σ)} (hl : (l.map posG).Nodup) (hm : (m.map posG).Nodup) (h : ∀ x, x ∈ l ↔ x ∈ m) : srtG l = srtG m :=
  ssg_unique _ _ (srtG_ss hl) (srtG_ss hm) fun x => (srtG_perm l).mem_iff.trans ((h x).trans (srtG_perm m).symm.mem_iff)
theorem ssg_nodup {l : List (Int × Int × σ)} (h : SSG l) : (l.map posG).Nodup := (ssg_iff.1 h).2
theorem ssg_inj {l : List (Int × Int × σ)} (h : SSG l) {x y : Int} {s t : σ} (h1 : (x, y, s) ∈ l) (h2 : (x, y, t) ∈ l) : s = t := by
  obtain ⟨i, hi, e1⟩ := List.getElem_of_mem h1
  obtain ⟨j, hj, e2⟩ := List.getElem_of_mem h2
  have hp := List.pairwise_iff_getElem.1 h
  rcases Nat.lt_trichotomy i j with q | q | q
  · have := hp i j hi hj q; rw [e1, e2] at this; unfold gBef befP at this; simp only [decide_eq_true_eq] at this; omega
  · subst q; rw [e1] at e2; injection e2 with _ e3; injection e3
  · have := hp j i hj hi q; rw [e1, e2] at this; unfold gBef befP at this; simp only [decide_eq_true_eq] at this; omega
end
end Go.Proofs.YtellglbmbocgkaaGreatDoor
end
section
namespace Go.Proofs.YtellglbmbocgkaaGreatDoor
open Go Go.RowKit
def okG (l : List (Int × Int × Int × Int)) (i : Nat) : Bool := match l[i]? with
  | none => true
  | some p => validB p.1 p.2.1 && decide (0 ≤ p.2.2.1 ∧ p.2.2.1 ≤ 7 ∧ 0 ≤ p.2.2.2 ∧ p.2.2.2 ≤ 7 ∧ p.2.2.1 ≠ p.2.2.2) && (i == 0 || (match l[i - 1]? with | none => true | some q => gBef q p))
def rightG (l : List (Int × Int × Int × Int)) : Bool := decide (l.length ≤ 10000) && (List.range l.length).all (okG l)
section
variable {l : List (Int × Int × Int × Int)} {n j : Nat} {x y f t a b c d : Int}
theorem rightG_len (hl : l.length = n) (h : 10000 < n) : rightG l = false := by
  unfold rightG; rw [hl, decide_eq_false (by omega)]; rfl
theorem rightG_bad (hl : l.length = n) (hj : j < n) (h : okG l j = false) : rightG l = false := by
  unfold rightG
  rw [hl, Bool.and_eq_false_iff]
  right
  rw [List.all_eq_false]
  exact ⟨j, by simpa using hj, by simp [h]⟩
theorem rightG_all (hl : l.length = n) (h2 : n ≤ 10000) (h : ∀ j, j < n → okG l j = true) : rightG l = true := by
  unfold rightG
  rw [hl, decide_eq_true (by omega), Bool.true_and, List.all_eq_true]
  intro j hj
  exact h j (by simpa using hj)
theorem okG_step (h : ∀ r, r < j → okG l r = true) (hj : okG l j = true) : ∀ r, r < j + 1 → okG l r = true := by
  intro r hr
  by_cases e : r = j
  · rw [e]; exact hj
  · exact h r (by omega)
theorem okG_place (hx : l[j]? = some (x, y, f, t)) (h : validB x y = false) : okG l j = false := by
  unfold okG; rw [hx]; simp only [h, Bool.false_and]
theorem okG_state (hx : l[j]? = some (x, y, f, t)) (h : ¬(0 ≤ f ∧ f ≤ 7 ∧ 0 ≤ t ∧ t ≤ 7 ∧ f ≠ t)) : okG l j = false := by
  unfold okG; rw [hx]
  have : decide (0 ≤ f ∧ f ≤ 7 ∧ 0 ≤ t ∧ t ≤ 7 ∧ f ≠ t) = false := decide_eq_false h
  simp only [this, Bool.and_false, Bool.false_and]
theorem okG_first (hx : l[0]? = some (x, y, f, t)) (hv : validB x y = true) (h : 0 ≤ f ∧ f ≤ 7 ∧ 0 ≤ t ∧ t ≤ 7 ∧ f ≠ t) : okG l 0 = true := by
  unfold okG; rw [hx]
  have : decide (0 ≤ f ∧ f ≤ 7 ∧ 0 ≤ t ∧ t ≤ 7 ∧ f ≠ t) = true := decide_eq_true h
  simp only [this, hv]; rfl
theorem okG_next (hj : 0 < j) (hx : l[j]? = some (x, y, f, t)) (hp : l[j - 1]? = some (a, b, c, d)) (hv : validB x y = true) (h : 0 ≤ f ∧ f ≤ 7 ∧ 0 ≤ t ∧ t ≤ 7 ∧ f ≠ t) : okG l j = befP a b x y := by
  unfold okG; rw [hx, hp]
  have h1 : decide (0 ≤ f ∧ f ≤ 7 ∧ 0 ≤ t ∧ t ≤ 7 ∧ f ≠ t) = true := decide_eq_true h
  have h2 : (j == 0) = false := by simp; omega
  simp only [h1, hv, h2]; rfl
theorem rightG_ok (h : rightG l = true) : l.length ≤ 10000 ∧ ∀ j, okG l j = true := by
  unfold rightG at h
  rw [Bool.and_eq_true, List.all_eq_true, decide_eq_true_eq] at h
  refine ⟨h.1, fun j => ?_⟩
  by_cases hj : j < l.length
  · exact h.2 j (by simpa using hj)
  · unfold okG; rw [List.getElem?_eq_none (by omega)]
theorem rightG_elem (h : rightG l = true) (hx : l[j]? = some (x, y, f, t)) : Pt x y ∧ 0 ≤ f ∧ f ≤ 7 ∧ 0 ≤ t ∧ t ≤ 7 ∧ f ≠ t := by
  have := (rightG_ok h).2 j
  unfold okG at this
  rw [hx] at this
  simp only [Bool.and_eq_true, decide_eq_true_eq] at this
  exact ⟨validB_iff.1 this.1.1, this.1.2⟩
theorem rightG_sorted (h : rightG l = true) : SSG l := by
  refine pairwise_of_next (r := fun a b => gBef a b = true) (fun a b c h1 h2 => gBef_tr h1 h2) l fun j p q hp hq => ?_
  have := (rightG_ok h).2 (j + 1)
  unfold okG at this
  rw [hq, show j + 1 - 1 = j by omega, hp] at this
  simp only [Bool.and_eq_true, Bool.or_eq_true] at this
  rcases this.2 with h0 | h0
  · simp at h0
  · exact h0
theorem rightG_of (h1 : l.length ≤ 10000) (h2 : ∀ p, p ∈ l → Pt p.1 p.2.1 ∧ 0 ≤ p.2.2.1 ∧ p.2.2.1 ≤ 7 ∧ 0 ≤ p.2.2.2 ∧ p.2.2.2 ≤ 7 ∧ p.2.2.1 ≠ p.2.2.2) (h3 : SSG l) : rightG l = true := by
  refine rightG_all rfl h1 fun j hj => ?_
  obtain ⟨p, hp⟩ : ∃ p, p = l[j] := ⟨_, rfl⟩
  obtain ⟨x, y, f, t⟩ := p
  have hx : l[j]? = some (x, y, f, t) := by rw [List.getElem?_eq_getElem hj, ← hp]
  have hm := h2 _ (List.mem_of_getElem? hx)
  have hv := validB_iff.2 hm.1
  rcases Nat.eq_zero_or_pos j with rfl | h0
  · exact okG_first hx hv hm.2
  · have hj1 : j - 1 < l.length := by omega
    obtain ⟨q, hq⟩ : ∃ q, q = l[j - 1] := ⟨_, rfl⟩
    obtain ⟨a, b, c, d⟩ := q
    have hy : l[j - 1]? = some (a, b, c, d) := by rw [List.getElem?_eq_getElem hj1, ← hq]
    rw [okG_next h0 hx hy hv hm.2]
    have := (List.pairwise_iff_getElem.1 h3) (j - 1) j (by omega) hj (by omega)
    rw [← hp, ← hq] at this
    exact this
end
section
variable {a b p q : List (Int × Int × Int)} {x y s f t : Int}
theorem getC_in {l : List (Int × Int × Int)} {x y : Int} (h : getC l x y ≠ 0) : (x, y, getC l x y) ∈ l := by
  induction l with
  | nil => simp [getC] at h
  | cons c l ih =>
    unfold getC at h ⊢
    by_cases e : c.1 = x ∧ c.2.1 = y
    · rw [if_pos e] at h ⊢
      obtain ⟨e1, e2⟩ := e
      subst e1 e2
      simp
    · rw [if_neg e] at h ⊢
      exact List.mem_cons_of_mem _ (ih h)
theorem right_mem (h : rightC p = true) (hm : (x, y, s) ∈ p) : Pt x y ∧ 1 ≤ s ∧ s ≤ 7 := by
  obtain ⟨i, hi⟩ := List.getElem?_of_mem hm
  exact rightC_elem h hi
theorem right_get (h : rightC p = true) : (x, y, s) ∈ p ↔ getC p x y = s ∧ s ≠ 0 := by
  constructor
  · intro hm
    exact ⟨getC_mem (rightC_sorted h) hm, by have := (right_mem h hm).2.1; omega⟩
  · rintro ⟨rfl, hs⟩
    exact getC_in hs
theorem right_rng (h : rightC p = true) : 0 ≤ getC p x y ∧ getC p x y ≤ 7 := by
  by_cases e : getC p x y = 0
  · omega
  · have := right_mem h (getC_in e); omega
def ofA (b : List (Int × Int × Int)) (c : Int × Int × Int) : List (Int × Int × Int × Int) := if getC b c.1 c.2.1 = c.2.2 then [] else [(c.1, c.2.1, c.2.2, getC b c.1 c.2.1)]
def ofB (a : List (Int × Int × Int)) (c : Int × Int × Int) : List (Int × Int × Int × Int) := if getC a c.1 c.2.1 = 0 then [(c.1, c.2.1, 0, c.2.2)] else []
def ofM (a b : List (Int × Int × Int)) : List (Int × Int × Int × Int) := a.flatMap (ofA b) ++ b.flatMap (ofB a)
def ofR (a b : List (Int × Int × Int)) : List (Int × Int × Int × Int) := srtG (ofM a b)
def ofE (a b : List (Int × Int × Int)) : Int := if rightC a = true ∧ rightC b = true then 0 else 2
def ofL (a b : List (Int × Int × Int)) : List (Int × Int × Int × Int) := if rightC a = true ∧ rightC b = true then ofR a b else []
theorem ofM_mem (ha : rightC a = true) (hb : rightC b = true) : (x, y, f, t) ∈ ofM a b ↔ f = getC a x y ∧ t = getC b x y ∧ f ≠ t := by
  unfold ofM ofA ofB
  rw [List.mem_append, List.mem_flatMap, List.mem_flatMap]
  constructor
  · rintro (⟨⟨u, v, s⟩, hm, hx⟩ | ⟨⟨u, v, s⟩, hm, hx⟩)
    · simp only at hx
      split at hx
      · cases hx
      · rename_i hne
        obtain ⟨rfl, rfl, rfl, rfl⟩ : x = u ∧ y = v ∧ f = s ∧ t = getC b u v := by simpa using hx
        exact ⟨((right_get ha).1 hm).1.symm, rfl, fun e => hne e.symm⟩
    · simp only at hx
      split at hx
      · rename_i h0
        obtain ⟨rfl, rfl, rfl, rfl⟩ : x = u ∧ y = v ∧ f = 0 ∧ t = s := by simpa using hx
        exact ⟨h0.symm, ((right_get hb).1 hm).1.symm, fun e => ((right_get hb).1 hm).2 e.symm⟩
      · cases hx
  · rintro ⟨rfl, rfl, hne⟩
    by_cases h0 : getC a x y = 0
    · refine .inr ⟨(x, y, getC b x y), getC_in (fun e => hne (by rw [h0, e])), ?_⟩
      rw [if_pos h0, h0]; simp
    · refine .inl ⟨(x, y, getC a x y), getC_in h0, ?_⟩
      rw [if_neg (fun e => hne e.symm)]; simp
theorem flat_posA (l : List (Int × Int × Int)) (b : List (Int × Int × Int)) : ((l.flatMap (ofA b)).map posG).Sublist (l.map posD) := by
  induction l with
  | nil => exact List.Sublist.refl _
  | cons c l ih =>
    rw [List.flatMap_cons, List.map_append, List.map_cons]
    unfold ofA
    split
    · exact ih.cons _
    · exact ih.cons_cons _
theorem flat_posB (l : List (Int × Int × Int)) (a : List (Int × Int × Int)) : ((l.flatMap (ofB a)).map posG).Sublist (l.map posD) := by
  induction l with
  | nil => exact List.Sublist.refl _
  | cons c l ih =>
    rw [List.flatMap_cons, List.map_append, List.map_cons]
    unfold ofB
    split
    · exact ih.cons_cons _
    · exact ih.cons _
theorem ofM_nodup (ha : rightC a = true) (hb : rightC b = true) : ((ofM a b).map posG).Nodup := by
  unfold ofM
  rw [List.map_append, List.nodup_append]
  refine ⟨(flat_posA a b).nodup (ssc_iff.1 (rightC_sorted ha)).2, (flat_posB b a).nodup (ssc_iff.1 (rightC_sorted hb)).2, ?_⟩
  intro u hu v hv e
  subst e
  obtain ⟨z, hz, rfl⟩ := List.mem_map.1 hu
  obtain ⟨z', hz', he⟩ := List.mem_map.1 hv
  obtain ⟨c, hc, hz⟩ := List.mem_flatMap.1 hz
  obtain ⟨c', hc', hz'⟩ := List.mem_flatMap.1 hz'
  unfold ofA at hz
  unfold ofB at hz'
  split at hz
  · cases hz
  split at hz'
  · rename_i h0
    obtain rfl : z = _ := by simpa using hz
    obtain rfl : z' = _ := by simpa using hz'
    obtain ⟨x, y, s⟩ := c
    obtain ⟨x', y', s'⟩ := c'
    unfold posG at he
    simp only at he h0
    injection he with e1 e2
    subst e1 e2
    have := (right_get ha).1 hc
    omega
  · cases hz'
theorem ofR_mem (ha : rightC a = true) (hb : rightC b = true) : (x, y, f, t) ∈ ofR a b ↔ f = getC a x y ∧ t = getC b x y ∧ f ≠ t := by
  unfold ofR; rw [(srtG_perm _).mem_iff]; exact ofM_mem ha hb
theorem ofR_ss (ha : rightC a = true) (hb : rightC b = true) : SSG (ofR a b) := srtG_ss (ofM_nodup ha hb)
theorem flat_lenA (l b : List (Int × Int × Int)) : (l.flatMap (ofA b)).length ≤ l.length := by
  have := (flat_posA l b).length_le; simpa using this
theorem flat_lenB (l a : List (Int × Int × Int)) : (l.flatMap (ofB a)).length ≤ l.length := by
  have := (flat_posB l a).length_le; simpa using this
theorem ofR_len : (ofR a b).length ≤ a.length + b.length := by
  unfold ofR ofM
  rw [(srtG_perm _).length_eq, List.length_append]
  have := flat_lenA a b
  have := flat_lenB b a
  omega
theorem ofR_right (ha : rightC a = true) (hb : rightC b = true) : rightG (ofR a b) = true := by
  refine rightG_of ?_ ?_ (ofR_ss ha hb)
  · have := ofR_len (a := a) (b := b)
    have := (rightC_ok ha).1
    have := (rightC_ok hb).1
    omega
  · rintro ⟨x, y, f, t⟩ hm
    obtain ⟨rfl, rfl, hne⟩ := (ofR_mem ha hb).1 hm
    have h1 := right_rng (x := x) (y := y) ha
    have h2 := right_rng (x := x) (y := y) hb
    refine ⟨?_, h1.1, h1.2, h2.1, h2.2, hne⟩
    by_cases h0 : getC a x y = 0
    · exact (right_mem hb (getC_in (fun e => hne (by rw [h0, e])))).1
    · exact (right_mem ha (getC_in h0)).1
theorem ofR_eq (ha : rightC a = true) (hb : rightC b = true) {l m : List (Int × Int × Int × Int)} (hp : l.Perm m) (hw : WG l) (hn : (m.map posG).Nodup) (h : ∀ x y f t, (x, y, f, t) ∈ m ↔ f = getC a x y ∧ t = getC b x y ∧ f ≠ t) : l = ofR a b := by
  rw [srtG_eq hp hw hn]
  exact srtG_congr hn (ofM_nodup ha hb) fun z => by obtain ⟨x, y, f, t⟩ := z; rw [h, ofM_mem ha hb]
def fitG (p : List (Int × Int × Int)) (l : List (Int × Int × Int × Int)) : Bool := l.all fun c => decide (getC p c.1 c.2.1 = c.2.2.1)
def toC (c : Int × Int × Int × Int) : Int × Int × Int := (c.1, c.2.1, c.2.2.2)
def inG (l : List (Int × Int × Int × Int)) (x y : Int) : Bool := l.any fun c => decide (c.1 = x ∧ c.2.1 = y)
def apM (p : List (Int × Int × Int)) (l : List (Int × Int × Int × Int)) : List (Int × Int × Int) := l.map toC ++ p.filter fun c => !inG l c.1 c.2.1
def apE (p : List (Int × Int × Int)) (l : List (Int × Int × Int × Int)) : Int := if rightC p = true ∧ rightG l = true then (if fitG p l = true then frE (apM p l) else 17) else 2
def apL (p : List (Int × Int × Int)) (l : List (Int × Int × Int × Int)) : List (Int × Int × Int) := if rightC p = true ∧ rightG l = true ∧ fitG p l = true then frL (apM p l) else []
end
end Go.Proofs.YtellglbmbocgkaaGreatDoor
end
section
namespace Go.Proofs.YtellglbmbocgkaaGreatDoor
open Go Go.RowKit
structure GdC (M : List (Int × Int × Int)) : Prop where
  ok : ∀ c ∈ M, frBad c = 0
  nd : (M.map posD).Nodup
theorem nz_mem {M : List (Int × Int × Int)} {x y s : Int} : (x, y, s) ∈ nz M ↔ (x, y, s) ∈ M ∧ 0 < s := by
  unfold nz nzC; rw [List.mem_filter]; simp
theorem nz_nodup {M : List (Int × Int × Int)} (h : (M.map posD).Nodup) : ((nz M).map posD).Nodup := (List.filter_sublist.map posD).nodup h
theorem nodup_of_map {α β : Type} {f : α → β} {l : List α} (h : (l.map f).Nodup) : l.Nodup := by
  unfold List.Nodup at *
  rw [List.pairwise_map] at h
  exact h.imp fun hab e => hab (by rw [e])
section
variable {M M' : List (Int × Int × Int)}
theorem GdC.first (h : GdC M) : frFirst M = 0 := frFirst_good fun i d hd => h.ok d (List.mem_of_getElem? hd)
theorem GdC.ss (h : GdC M) : SSC (srtC (nz M)) := ssc_iff.2 ⟨srtC_wc _, ((srtC_perm _).map posD).nodup_iff.2 (nz_nodup h.nd)⟩
theorem GdC.err (h : GdC M) : frE M = if (nz M).length ≤ 5000 then 0 else 6 := by
  unfold frE
  rw [if_pos h.first, if_pos (ssB_iff.2 h.ss)]
theorem frC_congr (h : GdC M) (h' : GdC M') (hm : ∀ x y s, s ≠ 0 → ((x, y, s) ∈ M ↔ (x, y, s) ∈ M')) : frE M = frE M' ∧ frL M = frL M' := by
  have hiff : ∀ c, c ∈ nz M ↔ c ∈ nz M' := by
    rintro ⟨x, y, s⟩
    rw [nz_mem, nz_mem]
    constructor
    · rintro ⟨h1, h2⟩; exact ⟨(hm x y s (by omega)).1 h1, h2⟩
    · rintro ⟨h1, h2⟩; exact ⟨(hm x y s (by omega)).2 h1, h2⟩
  have hp : (nz M).Perm (nz M') := (List.perm_ext_iff_of_nodup (nodup_of_map (nz_nodup h.nd)) (nodup_of_map (nz_nodup h'.nd))).2 hiff
  have hE : frE M = frE M' := by rw [h.err, h'.err, hp.length_eq]
  refine ⟨hE, ?_⟩
  unfold frL
  rw [← hE]
  split
  · exact ssc_unique _ _ h.ss h'.ss fun c => (srtC_perm _).mem_iff.trans ((hiff c).trans (srtC_perm _).symm.mem_iff)
  · rfl
end
theorem frBad_zero {c : Int × Int × Int} : frBad c = 0 ↔ Pt c.1 c.2.1 ∧ 0 ≤ c.2.2 ∧ c.2.2 ≤ 7 := by
  unfold frBad
  constructor
  · intro h
    split at h
    · rename_i hv
      split at h
      · rename_i hs; exact ⟨validB_iff.1 hv, hs⟩
      · omega
    · omega
  · rintro ⟨h1, h2⟩
    rw [if_pos (validB_iff.2 h1), if_pos h2]
section
variable {a b p q : List (Int × Int × Int)} {l : List (Int × Int × Int × Int)} {x y s f t : Int}
theorem rightG_mem (h : rightG l = true) (hm : (x, y, f, t) ∈ l) : Pt x y ∧ 0 ≤ f ∧ f ≤ 7 ∧ 0 ≤ t ∧ t ≤ 7 ∧ f ≠ t := by
  obtain ⟨i, hi⟩ := List.getElem?_of_mem hm
  exact rightG_elem h hi
theorem inG_iff : inG l x y = true ↔ ∃ f t, (x, y, f, t) ∈ l := by
  unfold inG
  rw [List.any_eq_true]
  constructor
  · rintro ⟨⟨u, v, f, t⟩, hm, h⟩
    obtain ⟨rfl, rfl⟩ := of_decide_eq_true h
    exact ⟨f, t, hm⟩
  · rintro ⟨f, t, hm⟩
    exact ⟨_, hm, decide_eq_true ⟨rfl, rfl⟩⟩
theorem apM_mem : (x, y, s) ∈ apM p l ↔ (∃ f, (x, y, f, s) ∈ l) ∨ ((x, y, s) ∈ p ∧ inG l x y = false) := by
  unfold apM toC
  rw [List.mem_append, List.mem_map, List.mem_filter]
  constructor
  · rintro (⟨⟨u, v, f, t⟩, hm, e⟩ | ⟨h1, h2⟩)
    · simp only at e
      injection e with e1 e2
      injection e2 with e2 e3
      subst e1 e2 e3
      exact .inl ⟨f, hm⟩
    · exact .inr ⟨h1, by simpa using h2⟩
  · rintro (⟨f, hm⟩ | ⟨h1, h2⟩)
    · exact .inl ⟨_, hm, rfl⟩
    · exact .inr ⟨h1, by simpa using h2⟩
theorem apM_good (hp : rightC p = true) (hl : rightG l = true) : GdC (apM p l) := by
  constructor
  · rintro ⟨x, y, s⟩ hm
    rw [frBad_zero]
    rcases apM_mem.1 hm with ⟨f, h⟩ | ⟨h, _⟩
    · have := rightG_mem hl h; exact ⟨this.1, this.2.2.2.1, this.2.2.2.2.1⟩
    · have := right_mem hp h; exact ⟨this.1, show 0 ≤ s by omega, this.2.2⟩
  · unfold apM
    rw [List.map_append, List.nodup_append]
    refine ⟨?_, (List.filter_sublist.map posD).nodup (ssc_iff.1 (rightC_sorted hp)).2, ?_⟩
    · rw [List.map_map]
      exact ssg_nodup (rightG_sorted hl)
    · intro u hu v hv e
      subst e
      obtain ⟨z, hz, rfl⟩ := List.mem_map.1 hu
      obtain ⟨z', hz', he⟩ := List.mem_map.1 hv
      obtain ⟨⟨x, y, f, t⟩, hc, rfl⟩ := List.mem_map.1 hz
      obtain ⟨x', y', s'⟩ := z'
      obtain ⟨h1, h2⟩ := List.mem_filter.1 hz'
      unfold posD toC at he
      simp only at he
      injection he with e1 e2
      subst e1 e2
      have : inG l x' y' = true := inG_iff.2 ⟨f, t, hc⟩
      simp [this] at h2
theorem apE_right (h : apE p l = 0) : rightC p = true ∧ rightG l = true ∧ fitG p l = true ∧ frE (apM p l) = 0 := by
  unfold apE at h
  split at h
  · rename_i hr
    split at h
    · rename_i hf; exact ⟨hr.1, hr.2, hf, h⟩
    · omega
  · omega
theorem apL_eq (h : apE p l = 0) : apL p l = frL (apM p l) := by
  obtain ⟨h1, h2, h3, _⟩ := apE_right h
  unfold apL; rw [if_pos ⟨h1, h2, h3⟩]
theorem apL_right (h : apE p l = 0) : rightC (apL p l) = true := by
  rw [apL_eq h]; exact frL_right (apE_right h).2.2.2
theorem ap_of (ha : rightC a = true) (hb : rightC b = true) : apE a (ofR a b) = 0 ∧ apL a (ofR a b) = b := by
  have hr := ofR_right ha hb
  have hf : fitG a (ofR a b) = true := by
    unfold fitG
    rw [List.all_eq_true]
    rintro ⟨x, y, f, t⟩ hm
    exact decide_eq_true ((ofR_mem ha hb).1 hm).1.symm
  have hg := apM_good ha hr
  have hin : ∀ x y, inG (ofR a b) x y = false → getC a x y = getC b x y := fun x y h => by
    by_cases e : getC a x y = getC b x y
    · exact e
    · rw [inG_iff.2 ⟨_, _, (ofR_mem ha hb).2 ⟨rfl, rfl, e⟩⟩] at h; cases h
  have hmem : ∀ c, c ∈ nz (apM a (ofR a b)) ↔ c ∈ b := by
    rintro ⟨x, y, s⟩
    rw [nz_mem, apM_mem, right_get hb]
    constructor
    · rintro ⟨⟨f, hm⟩ | ⟨hm, hn⟩, hs⟩
      · exact ⟨((ofR_mem ha hb).1 hm).2.1.symm, by omega⟩
      · rw [← hin x y hn]; exact ⟨((right_get ha).1 hm).1, by omega⟩
    · rintro ⟨rfl, h0⟩
      have := right_rng (x := x) (y := y) hb
      refine ⟨?_, by omega⟩
      by_cases e : getC a x y = getC b x y
      · refine .inr ⟨by rw [← e]; exact getC_in (by rw [e]; exact h0), ?_⟩
        cases hi : inG (ofR a b) x y with
        | false => rfl
        | true =>
          obtain ⟨f, t, hm⟩ := inG_iff.1 hi
          obtain ⟨rfl, rfl, hne⟩ := (ofR_mem ha hb).1 hm
          exact absurd e hne
      · exact .inl ⟨_, (ofR_mem ha hb).2 ⟨rfl, rfl, e⟩⟩
  have hnd := nz_nodup hg.nd
  have hbn := (ssc_iff.1 (rightC_sorted hb)).2
  have hperm : (nz (apM a (ofR a b))).Perm b := (List.perm_ext_iff_of_nodup (nodup_of_map hnd) (nodup_of_map hbn)).2 hmem
  have hE : frE (apM a (ofR a b)) = 0 := by rw [hg.err, hperm.length_eq, if_pos (rightC_ok hb).1]
  have hA : apE a (ofR a b) = 0 := by unfold apE; rw [if_pos ⟨ha, hr⟩, if_pos hf]; exact hE
  refine ⟨hA, ?_⟩
  rw [apL_eq hA, frL_ok hE]
  exact ssc_unique _ _ hg.ss (rightC_sorted hb) fun c => ((srtC_perm _).mem_iff).trans (hmem c)
end
end Go.Proofs.YtellglbmbocgkaaGreatDoor
end
section
namespace Go.Proofs.YtellglbmbocgkaaGreatDoor
open Go Go.RowKit
abbrev Cel := Int × Int × Int
abbrev Chg := Int × Int × Int × Int
abbrev TFr := Int × Bool × List Cel × List Chg
def nxP (out : List (List Cel)) (j : Nat) (f : TFr) : List Cel := if f.2.1 = true then f.2.2.1 else apL (out.getD (j - 1) []) f.2.2.2
def patL (fs : List TFr) : Nat → List (List Cel)
  | 0 => []
  | j + 1 => patL fs j ++ (match fs[j]? with | none => [] | some f => [nxP (patL fs j) j f])
def lastG (fs : List TFr) : Nat → Int
  | 0 => -1
  | j + 1 => match fs[j]? with | none => -1 | some f => f.1
def okT (K : Nat) (fs : List TFr) (j : Nat) : Bool := match fs[j]? with
  | none => true
  | some f => decide (lastG fs j < f.1 ∧ f.1 ≤ 2147483647) && (f.2.1 == decide (j % K = 0)) && (if f.2.1 = true then rightC f.2.2.1 && f.2.2.2.isEmpty else decide (apE ((patL fs j).getD (j - 1) []) f.2.2.2 = 0) && f.2.2.1.isEmpty)
def tlB (key : Int) (fs : List TFr) : Bool := decide (1 ≤ key ∧ key ≤ 100) && decide (fs.length ≤ 1000) && (List.range fs.length).all (okT key.toNat fs)
def tlP (key : Int) (fs : List TFr) : List (List Cel) := if tlB key fs = true then patL fs fs.length else []
def okTT (K : Nat) (fs : List TFr) (j : Nat) : Prop := ∀ i, i < j → okT K fs i = true
section
variable {key g : Int} {K j n : Nat} {fs : List TFr} {fu : Bool} {C : List Cel} {D : List Chg}
theorem pat_step (h : fs[j]? = some (g, fu, C, D)) : patL fs (j + 1) = patL fs j ++ [nxP (patL fs j) j (g, fu, C, D)] := by
  show patL fs j ++ _ = _
  rw [h]
theorem pat_len : ∀ j, j ≤ fs.length → (patL fs j).length = j
  | 0, _ => rfl
  | j + 1, h => by
    have hf : fs[j]? = some fs[j] := List.getElem?_eq_getElem (by omega)
    obtain ⟨⟨g, fu, C, D⟩, hf⟩ : ∃ f, fs[j]? = some f := ⟨_, hf⟩
    rw [pat_step hf, List.length_append, pat_len j (by omega)]; rfl
theorem last_step (h : fs[j]? = some (g, fu, C, D)) : lastG fs (j + 1) = g := by
  show (match fs[j]? with | none => -1 | some f => f.1) = g
  rw [h]
theorem tlB_key (h : ¬(1 ≤ key ∧ key ≤ 100)) : tlB key fs = false := by
  unfold tlB; rw [decide_eq_false h]; rfl
theorem tlB_len (hl : fs.length = n) (h : 1000 < n) : tlB key fs = false := by
  unfold tlB; rw [decide_eq_false (p := fs.length ≤ 1000) (by omega)]; simp
theorem tlB_bad (hK : key = (K : Int)) (hl : fs.length = n) (hj : j < n) (h : okT K fs j = false) : tlB key fs = false := by
  unfold tlB
  rw [Bool.and_eq_false_iff]
  right
  rw [List.all_eq_false]
  exact ⟨j, by simp; omega, by rw [hK, Int.toNat_natCast]; simp [h]⟩
theorem tlB_all (hK : key = (K : Int)) (h1 : 1 ≤ key ∧ key ≤ 100) (hl : fs.length = n) (h2 : n ≤ 1000) (h : okTT K fs n) : tlB key fs = true := by
  unfold tlB
  rw [decide_eq_true h1, decide_eq_true (p := fs.length ≤ 1000) (by omega), Bool.true_and, Bool.true_and, List.all_eq_true]
  intro i hi
  rw [hK, Int.toNat_natCast]
  exact h i (by simp at hi; omega)
theorem okTT_step (h : okTT K fs j) (hj : okT K fs j = true) : okTT K fs (j + 1) := by
  intro r hr
  by_cases e : r = j
  · rw [e]; exact hj
  · exact h r (by omega)
theorem tlB_iff : tlB key fs = true ↔ (1 ≤ key ∧ key ≤ 100) ∧ fs.length ≤ 1000 ∧ ∀ j, okT key.toNat fs j = true := by
  unfold tlB
  rw [Bool.and_eq_true, Bool.and_eq_true, decide_eq_true_eq, decide_eq_true_eq, List.all_eq_true]
  constructor
  · rintro ⟨⟨h1, h2⟩, h3⟩
    refine ⟨h1, h2, fun j => ?_⟩
    by_cases hj : j < fs.length
    · exact h3 j (by simpa using hj)
    · unfold okT; rw [List.getElem?_eq_none (by omega)]
  · rintro ⟨h1, h2, h3⟩
    exact ⟨⟨h1, h2⟩, fun j _ => h3 j⟩
theorem okT_iff (h : fs[j]? = some (g, fu, C, D)) : okT K fs j = true ↔ lastG fs j < g ∧ g ≤ 2147483647 ∧ (fu = true ↔ j % K = 0) ∧ (fu = true → rightC C = true ∧ D = []) ∧ (fu = false → apE ((patL fs j).getD (j - 1) []) D = 0 ∧ C = []) := by
  unfold okT
  rw [h]
  cases fu with
  | false =>
    show (decide (lastG fs j < g ∧ g ≤ 2147483647) && (false == decide (j % K = 0)) && (if (false : Bool) = true then rightC C && D.isEmpty else decide (apE ((patL fs j).getD (j - 1) []) D = 0) && C.isEmpty)) = true ↔ _
    rw [if_neg (show ¬((false : Bool) = true) by simp), Bool.and_eq_true, Bool.and_eq_true, Bool.and_eq_true, decide_eq_true_eq, decide_eq_true_eq, List.isEmpty_iff, beq_iff_eq]
    constructor
    · rintro ⟨⟨h1, h2⟩, h3⟩
      have h2' := of_decide_eq_false h2.symm
      exact ⟨h1.1, h1.2, ⟨fun e => (by cases e), fun e => absurd e h2'⟩, fun e => (by cases e), fun _ => h3⟩
    · rintro ⟨h1, h2, h3, _, h5⟩
      exact ⟨⟨⟨h1, h2⟩, (decide_eq_false fun e => by have := h3.2 e; cases this).symm⟩, h5 rfl⟩
  | true =>
    show (decide (lastG fs j < g ∧ g ≤ 2147483647) && (true == decide (j % K = 0)) && (if (true : Bool) = true then rightC C && D.isEmpty else decide (apE ((patL fs j).getD (j - 1) []) D = 0) && C.isEmpty)) = true ↔ _
    rw [if_pos rfl, Bool.and_eq_true, Bool.and_eq_true, Bool.and_eq_true, decide_eq_true_eq, List.isEmpty_iff, beq_iff_eq]
    constructor
    · rintro ⟨⟨h1, h2⟩, h3⟩
      have h2' := of_decide_eq_true h2.symm
      exact ⟨h1.1, h1.2, ⟨fun _ => h2', fun _ => rfl⟩, fun _ => h3, fun e => (by cases e)⟩
    · rintro ⟨h1, h2, h3, h4, _⟩
      exact ⟨⟨⟨h1, h2⟩, (decide_eq_true (h3.1 rfl)).symm⟩, h4 rfl⟩
theorem okT_no (h : fs[j]? = some (g, fu, C, D)) (hn : ¬(lastG fs j < g ∧ g ≤ 2147483647 ∧ (fu = true ↔ j % K = 0) ∧ (fu = true → rightC C = true ∧ D = []) ∧ (fu = false → apE ((patL fs j).getD (j - 1) []) D = 0 ∧ C = []))) : okT K fs j = false := by
  rw [Bool.eq_false_iff]
  exact fun e => hn ((okT_iff h).1 e)
theorem tlB_ok (h : tlB key fs = true) : ∃ K : Nat, key = (K : Int) ∧ 1 ≤ K ∧ K ≤ 100 ∧ fs.length ≤ 1000 ∧ ∀ j, okT K fs j = true := by
  obtain ⟨h1, h2, h3⟩ := tlB_iff.1 h
  exact ⟨key.toNat, by omega, by omega, by omega, h2, h3⟩
theorem pat_right (h : ∀ j, okT K fs j = true) : ∀ j, j ≤ fs.length → ∀ p ∈ patL fs j, rightC p = true
  | 0, _, p, hp => by cases hp
  | j + 1, hj, p, hp => by
    obtain ⟨⟨g, fu, C, D⟩, hf⟩ : ∃ f, fs[j]? = some f := ⟨_, List.getElem?_eq_getElem (by omega)⟩
    rw [pat_step hf] at hp
    rcases List.mem_append.1 hp with hp | hp
    · exact pat_right h j (by omega) p hp
    · obtain rfl : p = _ := by simpa using hp
      have ho := (okT_iff hf).1 (h j)
      unfold nxP
      cases fu with
      | true => rw [if_pos rfl]; exact (ho.2.2.2.1 rfl).1
      | false => rw [if_neg (by simp)]; exact apL_right (ho.2.2.2.2 rfl).1
def bldF (K : Nat) (g : List Int) (l : List (List Cel)) (i : Nat) : TFr := (g.getD i 0, decide (i % K = 0), if i % K = 0 then l.getD i [] else [], if i % K = 0 then [] else ofL (l.getD (i - 1) []) (l.getD i []))
def bldL (K : Nat) (g : List Int) (l : List (List Cel)) : Nat → List TFr
  | 0 => []
  | i + 1 => bldL K g l i ++ [bldF K g l i]
def gnL (fs : List TFr) : List Int := fs.map fun f => f.1
theorem bld_len {g : List Int} {l : List (List Cel)} : ∀ i, (bldL K g l i).length = i
  | 0 => rfl
  | i + 1 => by show (bldL K g l i ++ _).length = _; rw [List.length_append, bld_len i]; rfl
theorem bld_at {g : List Int} {l : List (List Cel)} {j : Nat} : ∀ i, j < i → (bldL K g l i)[j]? = some (bldF K g l j)
  | 0, h => by omega
  | i + 1, h => by
    show (bldL K g l i ++ [bldF K g l i])[j]? = _
    by_cases e : j = i
    · subst e
      rw [List.getElem?_append_right (by rw [bld_len]; exact Nat.le_refl _), bld_len, Nat.sub_self]; rfl
    · rw [List.getElem?_append_left (by rw [bld_len]; omega)]
      exact bld_at i (by omega)
theorem getD_of {α : Type} {l : List α} {i : Nat} {x d : α} (h : l[i]? = some x) : l.getD i d = x := by rw [List.getD_eq_getElem?_getD, h]; rfl
theorem bld_ok {g : List Int} {l : List (List Cel)} {n : Nat} (hK : 1 ≤ K) (hl : l.length = n) (hr : ∀ p ∈ l, rightC p = true) (hg : ∀ j, j < n → g.getD j 0 ≤ 2147483647 ∧ 0 ≤ g.getD j 0 ∧ (0 < j → g.getD (j - 1) 0 < g.getD j 0)) :
    (∀ j, okT K (bldL K g l n) j = true) ∧ patL (bldL K g l n) n = l := by
  have hat : ∀ j, j < n → (bldL K g l n)[j]? = some (bldF K g l j) := fun j hj => bld_at n hj
  have hrj : ∀ j, rightC (l.getD j []) = true := fun j => by
    by_cases hj : j < l.length
    · rw [List.getD_eq_getElem?_getD, List.getElem?_eq_getElem hj]; exact hr _ (List.getElem_mem hj)
    · rw [List.getD_eq_getElem?_getD, List.getElem?_eq_none (by omega)]; rfl
  have hstep : ∀ j, j < n → patL (bldL K g l n) j = l.take j → nxP (patL (bldL K g l n) j) j (bldF K g l j) = l.getD j [] := by
    intro j hj hp
    unfold nxP bldF
    by_cases h0 : j % K = 0
    · show (if decide (j % K = 0) = true then (if j % K = 0 then l.getD j [] else []) else _) = _
      rw [if_pos (decide_eq_true h0), if_pos h0]
    · show (if decide (j % K = 0) = true then _ else apL _ (if j % K = 0 then [] else ofL (l.getD (j - 1) []) (l.getD j []))) = _
      rw [if_neg (by simpa using h0), if_neg h0]
      have hpos : 0 < j := by rcases Nat.eq_zero_or_pos j with rfl | h1; exact absurd (Nat.zero_mod K) h0; exact h1
      have e1 : (patL (bldL K g l n) j).getD (j - 1) [] = l.getD (j - 1) [] := by
        rw [hp, List.getD_eq_getElem?_getD, List.getElem?_take, if_pos (by omega), ← List.getD_eq_getElem?_getD]
      rw [e1]
      unfold ofL
      rw [if_pos ⟨hrj _, hrj _⟩]
      exact (ap_of (hrj (j - 1)) (hrj j)).2
  have hpat : ∀ j, j ≤ n → patL (bldL K g l n) j = l.take j := by
    intro j
    induction j with
    | zero => intro _; rfl
    | succ j ih =>
      intro hj
      have hp := ih (by omega)
      obtain ⟨⟨a, b, c, d⟩, hf⟩ : ∃ f, bldF K g l j = f := ⟨_, rfl⟩
      rw [pat_step (by rw [hat j (by omega), hf]), ← hf, hstep j (by omega) hp, hp, List.take_add_one]
      have hjl : j < l.length := by omega
      rw [List.getElem?_eq_getElem hjl, List.getD_eq_getElem?_getD, List.getElem?_eq_getElem hjl]
      rfl
  refine ⟨fun j => ?_, by rw [hpat n (Nat.le_refl _)]; exact List.take_of_length_le (by omega)⟩
  by_cases hj : j < n
  · have hf := hat j hj
    have hlast : lastG (bldL K g l n) j < g.getD j 0 := by
      cases j with
      | zero => show (-1 : Int) < _; have := (hg 0 hj).2.1; omega
      | succ i =>
        show (match (bldL K g l n)[i]? with | none => -1 | some f => f.1) < _
        rw [hat i (by omega)]
        exact (hg (i + 1) hj).2.2 (by omega)
    unfold bldF at hf
    refine (okT_iff hf).2 ⟨hlast, (hg j hj).1, ⟨fun e => of_decide_eq_true e, fun e => decide_eq_true e⟩, fun e => ?_, fun e => ?_⟩
    · have h0 := of_decide_eq_true e
      rw [if_pos h0, if_pos h0]
      exact ⟨hrj j, rfl⟩
    · have h0 := of_decide_eq_false e
      have hpos : 0 < j := by rcases Nat.eq_zero_or_pos j with rfl | h1; exact absurd (Nat.zero_mod K) h0; exact h1
      rw [if_neg h0, if_neg h0]
      have e1 : (patL (bldL K g l n) j).getD (j - 1) [] = l.getD (j - 1) [] := by
        rw [hpat j (by omega), List.getD_eq_getElem?_getD, List.getElem?_take, if_pos (by omega), ← List.getD_eq_getElem?_getD]
      rw [e1]
      unfold ofL
      rw [if_pos ⟨hrj _, hrj _⟩]
      exact ⟨(ap_of (hrj (j - 1)) (hrj j)).1, rfl⟩
  · unfold okT
    rw [List.getElem?_eq_none (by rw [bld_len]; omega)]
theorem tl_gens (h : ∀ j, okT K fs j = true) {j : Nat} (hj : j < fs.length) : (gnL fs).getD j 0 ≤ 2147483647 ∧ 0 ≤ (gnL fs).getD j 0 ∧ (0 < j → (gnL fs).getD (j - 1) 0 < (gnL fs).getD j 0) := by
  have hgi : ∀ i, i < fs.length → ∃ f, fs[i]? = some f ∧ (gnL fs).getD i 0 = f.1 := fun i hi => ⟨_, List.getElem?_eq_getElem hi, getD_of (by unfold gnL; rw [List.getElem?_map, List.getElem?_eq_getElem hi]; rfl)⟩
  have key : ∀ i, i < fs.length → lastG fs i < (gnL fs).getD i 0 ∧ (gnL fs).getD i 0 ≤ 2147483647 := fun i hi => by
    obtain ⟨⟨g, fu, C, D⟩, h1, h2⟩ := hgi i hi
    have := (okT_iff h1).1 (h i)
    rw [h2]
    exact ⟨this.1, this.2.1⟩
  have hlast : ∀ i, i ≤ fs.length → -1 ≤ lastG fs i := by
    intro i
    induction i with
    | zero => intro _; exact Int.le_refl _
    | succ i ih =>
      intro hi
      obtain ⟨f, h1, h2⟩ := hgi i (by omega)
      have := key i (by omega)
      have := ih (by omega)
      show -1 ≤ (match fs[i]? with | none => -1 | some f => f.1)
      rw [h1]
      simp only
      omega
  refine ⟨(key j hj).2, by have := (key j hj).1; have := hlast j (by omega); omega, fun h0 => ?_⟩
  obtain ⟨i, rfl⟩ : ∃ i, j = i + 1 := ⟨j - 1, by omega⟩
  have h1 := (key (i + 1) hj).1
  obtain ⟨f, h2, h3⟩ := hgi i (by omega)
  rw [Nat.add_sub_cancel, h3]
  have h4 : lastG fs (i + 1) = f.1 := by
    show (match fs[i]? with | none => -1 | some f => f.1) = _
    rw [h2]
  rw [h4] at h1
  exact h1
end
end Go.Proofs.YtellglbmbocgkaaGreatDoor
end
section
namespace Go.Proofs.YtellglbmbocgkaaGreatDoor
open Go Go.RowKit
theorem srt_of {m : List (Int × Int × Int)} (hn : (m.map posD).Nodup) : SSC (srtC m) := ssc_iff.2 ⟨srtC_wc m, ((srtC_perm m).map posD).nodup_iff.2 hn⟩
theorem srt_eq {m r : List (Int × Int × Int)} (hn : (m.map posD).Nodup) (hr : SSC r) (he : ∀ z, z ∈ r ↔ z ∈ m) : srtC m = r :=
  ssc_unique _ _ (srt_of hn) hr fun z => by rw [(srtC_perm m).mem_iff, he]
def okCells (m : List (Int × Int × Int)) : Prop := ∀ c ∈ m, Pt c.1 c.2.1 ∧ 1 ≤ c.2.2 ∧ c.2.2 ≤ 7
theorem frBad_ok' {x y s : Int} (h : validB x y = true) (h1 : 0 ≤ s) (h2 : s ≤ 7) : frBad (x, y, s) = 0 := by unfold frBad; rw [if_pos h, if_pos ⟨h1, h2⟩]
theorem frL_cells {m : List (Int × Int × Int)} (hv : okCells m) (hn : (m.map posD).Nodup) (hl : m.length ≤ 5000) : frE m = 0 ∧ frL m = srtC m := by
  have hz : nz m = m := List.filter_eq_self.2 fun c hc => by unfold nzC; exact decide_eq_true (by have := hv c hc; omega)
  have hf : frFirst m = 0 := by
    refine frFirst_good fun i d hd => ?_
    have := hv d (List.mem_of_getElem? hd)
    obtain ⟨x, y, s⟩ := d
    exact frBad_ok' (validB_iff.2 this.1) (by have := this.2.1; simp only at this; omega) this.2.2
  have he : frE m = 0 := frE_ok hf (by rw [hz]; exact ssB_iff.2 (srt_of hn)) (by rw [hz]; exact hl)
  exact ⟨he, by rw [frL_ok he, hz]⟩
section
variable {a b : List (Int × Int × Int)}
end
section
variable {a b : List (Int × Int × Int)}
end
end Go.Proofs.YtellglbmbocgkaaGreatDoor
end
section
namespace Go.Proofs.YtellglbmbocgkaaGreatDoor
open Go Go.RowKit
def nrD (d : Int) (a b : Int × Int × Int) : Bool := decide (a.1 - b.1 ≤ d ∧ b.1 - a.1 ≤ d ∧ a.2.1 - b.2.1 ≤ d ∧ b.2.1 - a.2.1 ≤ d)
theorem nrD_comm (d : Int) (a b : Int × Int × Int) : nrD d a b = nrD d b a := by
  unfold nrD; exact decide_eq_decide.2 (by omega)
inductive Rch (l : List (Int × Int × Int)) (d : Int) : Nat → Nat → Prop
  | refl {i : Nat} : i < l.length → Rch l d i i
  | step {i j k : Nat} {a b : Int × Int × Int} : Rch l d i j → l[j]? = some a → l[k]? = some b → nrD d a b = true → Rch l d i k
section
variable {l : List (Int × Int × Int)} {d : Int} {i j k : Nat}
theorem lt_of_some {α : Type} {l : List α} {k : Nat} {b : α} (h : l[k]? = some b) : k < l.length := (List.getElem?_eq_some_iff.1 h).1
theorem Rch.right (h : Rch l d i j) : j < l.length := by
  cases h with
  | refl h => exact h
  | step _ _ h _ => exact lt_of_some h
theorem Rch.left (h : Rch l d i j) : i < l.length := by
  induction h with
  | refl h => exact h
  | step _ _ _ _ ih => exact ih
theorem Rch.trans (h : Rch l d i j) (g : Rch l d j k) : Rch l d i k := by
  induction g with
  | refl _ => exact h
  | step _ h1 h2 h3 ih => exact .step ih h1 h2 h3
theorem Rch.one {a b : Int × Int × Int} (ha : l[i]? = some a) (hb : l[j]? = some b) (h : nrD d a b = true) : Rch l d i j := .step (.refl (lt_of_some ha)) ha hb h
theorem Rch.symm (h : Rch l d i j) : Rch l d j i := by
  induction h with
  | refl h => exact .refl h
  | step _ h1 h2 h3 ih => exact (Rch.one h2 h1 (by rw [nrD_comm]; exact h3)).trans ih
end
end Go.Proofs.YtellglbmbocgkaaGreatDoor
end
section
namespace Go.Proofs.YtellglbmbocgkaaGreatDoor
open Go Go.RowKit
/-- An element k of a node of level lv at index i is in order. -/
def nxOk (st : Int) (N : List (Int × List Int)) (lv : Int) (i : Nat) (k : Int) : Bool :=
  decide (0 ≤ k) && (decide (lv ≠ 1) || decide (k < st)) && (decide (lv ≤ 1) || (decide (k < i) && decide (((N[k.toNat]?).map (·.1)).getD 0 = lv - 1)))
/-- The node at index i is in order. -/
def ndOk (st : Int) (h : Nat) (N : List (Int × List Int)) (i : Nat) : Bool := match N[i]? with
  | none => true
  | some x => decide (1 ≤ x.1 ∧ x.1 ≤ h ∧ (x.2.length : Int) = st) && x.2.all (nxOk st N x.1 i)
def lastLv (N : List (Int × List Int)) : Int := ((N[N.length - 1]?).map (·.1)).getD 0
def trR (st : Int) (H : List (Int × Int)) (N : List (Int × List Int)) : Bool :=
  decide (2 ≤ st ∧ st ≤ 8) && rightL H && decide (1 ≤ N.length ∧ N.length ≤ 4096) && decide (lastLv N = H.length) && (List.range N.length).all (ndOk st H.length N)
/-- On to the node or state that state s leads to from node k. -/
def stepV (N : List (Int × List Int)) (k s : Int) : Int := ((N[k.toNat]?).bind fun x => x.2[s.toNat]?).getD 0
def valK (N : List (Int × List Int)) (ins : List Int) (j : Nat) : Int := (ins.take j).foldl (stepV N) ((N.length : Int) - 1)
def valT (N : List (Int × List Int)) (ins : List Int) : Int := ins.foldl (stepV N) ((N.length : Int) - 1)
/-- A neighbourhood of zeros leads to zero. -/
def trQ (st : Int) (H : List (Int × Int)) (N : List (Int × List Int)) : Bool := trR st H N && decide (valT N (List.replicate H.length 0) = 0)
section
variable {st : Int} {H : List (Int × Int)} {N : List (Int × List Int)} {n : Nat}
theorem trR_states (h : st < 2 ∨ 8 < st) : trR st H N = false := by
  unfold trR; rw [decide_eq_false (by omega)]; rfl
theorem trR_hood (h : rightL H = false) : trR st H N = false := by
  unfold trR; rw [h]; simp
theorem trR_size (hl : N.length = n) (h : n < 1 ∨ 4096 < n) : trR st H N = false := by
  unfold trR; rw [hl, decide_eq_false (show ¬(1 ≤ n ∧ n ≤ 4096) by omega)]; simp
theorem trR_last {x : Int × List Int} (hl : N.length = n) (hx : N[n - 1]? = some x) {m : Nat} (hm : H.length = m) (h : x.1 ≠ m) : trR st H N = false := by
  unfold trR lastLv
  rw [hl, hx, hm, decide_eq_false (show ¬((Option.map (·.1) (some x)).getD 0 = (m : Int)) from h)]; simp
theorem trR_node {i : Nat} (hi : i < N.length) (h : ndOk st H.length N i = false) : trR st H N = false := by
  unfold trR
  have : (List.range N.length).all (ndOk st H.length N) = false := by
    rw [List.all_eq_false]; exact ⟨i, by simpa using hi, by rw [h]; simp⟩
  rw [this]; simp
theorem trR_all {x : Int × List Int} (h1 : 2 ≤ st ∧ st ≤ 8) (h2 : rightL H = true) (hl : N.length = n) (h3 : 1 ≤ n ∧ n ≤ 4096) (hx : N[n - 1]? = some x) {m : Nat} (hm : H.length = m) (h4 : x.1 = m) (h5 : ∀ i, i < n → ndOk st m N i = true) : trR st H N = true := by
  unfold trR lastLv
  rw [hl, hx, hm, h2, decide_eq_true h1, decide_eq_true h3, decide_eq_true (show ((Option.map (·.1) (some x)).getD 0 = (m : Int)) from h4)]
  simp only [Bool.true_and, List.all_eq_true]
  intro i hi
  exact h5 i (by simpa using hi)
theorem ndOk_head {m i : Nat} {x : Int × List Int} (hx : N[i]? = some x) (h : x.1 < 1 ∨ (m : Int) < x.1 ∨ (x.2.length : Int) ≠ st) : ndOk st m N i = false := by
  unfold ndOk; rw [hx]; simp only; rw [decide_eq_false (by omega)]; rfl
theorem ndOk_elem {m i j : Nat} {x : Int × List Int} {k : Int} (hx : N[i]? = some x) (hk : x.2[j]? = some k) (h : nxOk st N x.1 i k = false) : ndOk st m N i = false := by
  unfold ndOk; rw [hx]; simp only
  have : x.2.all (nxOk st N x.1 i) = false := by
    rw [List.all_eq_false]; exact ⟨k, List.mem_of_getElem? hk, by rw [h]; simp⟩
  rw [this]; simp
theorem ndOk_all {m i : Nat} {x : Int × List Int} (hx : N[i]? = some x) (h1 : 1 ≤ x.1) (h2 : x.1 ≤ (m : Int)) (h3 : (x.2.length : Int) = st) (h : ∀ (j : Nat) k, j < x.2.length → x.2[j]? = some k → nxOk st N x.1 i k = true) : ndOk st m N i = true := by
  unfold ndOk; rw [hx]; simp only
  rw [decide_eq_true ⟨h1, h2, h3⟩, Bool.true_and, List.all_eq_true]
  intro k hk
  obtain ⟨j, hj, rfl⟩ := List.getElem_of_mem hk
  exact h j _ hj (List.getElem?_eq_getElem hj)
theorem nxOk_neg {lv k : Int} {i : Nat} (h : k < 0) : nxOk st N lv i k = false := by
  unfold nxOk; rw [decide_eq_false (show ¬ 0 ≤ k by omega)]; rfl
theorem nxOk_leaf {k : Int} {i : Nat} (h : 0 ≤ k) : nxOk st N 1 i k = decide (k < st) := by
  unfold nxOk; rw [decide_eq_true h]; simp
theorem nxOk_far {lv k : Int} {i : Nat} (hv : 1 < lv) (h : (i : Int) ≤ k) : nxOk st N lv i k = false := by
  unfold nxOk; rw [decide_eq_false (show ¬ lv ≤ 1 by omega), decide_eq_false (show ¬ k < i by omega)]; simp
theorem nxOk_node {lv k : Int} {i : Nat} {y : Int × List Int} (hv : 1 < lv) (h0 : 0 ≤ k) (h : k < i) (hy : N[k.toNat]? = some y) : nxOk st N lv i k = decide (y.1 = lv - 1) := by
  unfold nxOk; rw [decide_eq_false (show ¬ lv ≤ 1 by omega), decide_eq_true h, decide_eq_true h0, decide_eq_true (show lv ≠ 1 by omega), hy]; simp
theorem trR_parts (h : trR st H N = true) : (2 ≤ st ∧ st ≤ 8) ∧ rightL H = true ∧ (1 ≤ N.length ∧ N.length ≤ 4096) ∧ lastLv N = H.length ∧ ∀ i, i < N.length → ndOk st H.length N i = true := by
  unfold trR at h
  simp only [Bool.and_eq_true, decide_eq_true_eq, List.all_eq_true] at h
  obtain ⟨⟨⟨⟨h1, h2⟩, h3⟩, h4⟩, h5⟩ := h
  exact ⟨h1, h2, h3, h4, fun i hi => h5 i (by simpa using hi)⟩
theorem ndOk_parts {m i : Nat} {x : Int × List Int} (h : ndOk st m N i = true) (hx : N[i]? = some x) : 1 ≤ x.1 ∧ x.1 ≤ (m : Int) ∧ (x.2.length : Int) = st ∧ ∀ (j : Nat) k, x.2[j]? = some k → nxOk st N x.1 i k = true := by
  unfold ndOk at h
  rw [hx] at h
  simp only [Bool.and_eq_true, decide_eq_true_eq, List.all_eq_true] at h
  exact ⟨h.1.1, h.1.2.1, h.1.2.2, fun j k hk => h.2 k (List.mem_of_getElem? hk)⟩
theorem valK_step {ins : List Int} {j : Nat} {s : Int} (h : ins[j]? = some s) : valK N ins (j + 1) = stepV N (valK N ins j) s := by
  unfold valK; rw [List.take_add_one, h, List.foldl_append]; rfl
theorem valK_all {ins : List Int} (h : ins.length = n) : valK N ins n = valT N ins := by
  unfold valK valT; rw [List.take_of_length_le (by omega)]
theorem stepV_at {k s t : Int} {x : Int × List Int} (hx : N[k.toNat]? = some x) (ht : x.2[s.toNat]? = some t) : stepV N k s = t := by
  unfold stepV; rw [hx]; simp only [Option.bind_some]; rw [ht]; rfl
/-- What the walk through a valid tree meets. -/
theorem valK_inv (h : trR st H N = true) {ins : List Int} (hl : ins.length = H.length) (hs : ∀ s ∈ ins, 0 ≤ s ∧ s < st) : ∀ j, j ≤ ins.length → 0 ≤ valK N ins j ∧ (j < ins.length → ∃ x, N[(valK N ins j).toNat]? = some x ∧ valK N ins j < N.length ∧ x.1 = (ins.length : Int) - j ∧ (x.2.length : Int) = st) ∧ (j = ins.length → valK N ins j < st)
  | 0, h0 => by
    obtain ⟨h1, h2, h3, h4, h5⟩ := trR_parts h
    have e : valK N ins 0 = (N.length : Int) - 1 := rfl
    have hh : 1 ≤ H.length := by
      unfold rightL at h2
      rw [Bool.and_eq_true, decide_eq_true_eq] at h2
      exact h2.1.1
    have hx : N[N.length - 1]? = some N[N.length - 1] := List.getElem?_eq_getElem (by omega)
    have hn := ndOk_parts (h5 (N.length - 1) (by omega)) hx
    refine ⟨by rw [e]; omega, fun _ => ⟨N[N.length - 1], ?_, by rw [e]; omega, ?_, hn.2.2.1⟩, fun h => by omega⟩
    · rw [e, show ((N.length : Int) - 1).toNat = N.length - 1 by omega]; exact hx
    · unfold lastLv at h4
      rw [hx] at h4
      simp only [Option.map_some, Option.getD_some] at h4
      omega
  | j + 1, hj => by
    obtain ⟨h1, h2, h3, h4, h5⟩ := trR_parts h
    obtain ⟨i1, i2, _⟩ := valK_inv h hl hs j (by omega)
    obtain ⟨x, hx, hk, hlv, hlen⟩ := i2 (by omega)
    have hsj : ins[j]? = some ins[j] := List.getElem?_eq_getElem (by omega)
    obtain ⟨s0, s1⟩ := hs ins[j] (List.getElem_mem _)
    have hlt : (ins[j]).toNat < x.2.length := by omega
    have ht : x.2[(ins[j]).toNat]? = some x.2[(ins[j]).toNat] := List.getElem?_eq_getElem hlt
    have hnd := ndOk_parts (h5 (valK N ins j).toNat (by omega)) hx
    have hok := hnd.2.2.2 _ _ ht
    rw [valK_step hsj, stepV_at hx ht]
    generalize x.2[(ins[j]).toNat] = t at hok
    have t0 : 0 ≤ t := by
      rcases Int.lt_or_le t 0 with hn | hn
      · rw [nxOk_neg hn] at hok; cases hok
      · exact hn
    refine ⟨t0, fun hjl => ?_, fun hjl => ?_⟩
    · have hv : 1 < x.1 := by omega
      have hti : t < ((valK N ins j).toNat : Int) := by
        rcases Int.lt_or_le t ((valK N ins j).toNat : Int) with hn | hn
        · exact hn
        · rw [nxOk_far hv hn] at hok; cases hok
      have hy : N[t.toNat]? = some (N[t.toNat]'(by omega)) := List.getElem?_eq_getElem (by omega)
      rw [nxOk_node hv t0 hti hy] at hok
      have hyl := of_decide_eq_true hok
      have hnd2 := ndOk_parts (h5 t.toNat (by omega)) hy
      exact ⟨_, hy, by omega, by omega, hnd2.2.2.1⟩
    · have hv : x.1 = 1 := by omega
      rw [hv, nxOk_leaf t0] at hok
      exact of_decide_eq_true hok
theorem valT_range (h : trR st H N = true) {ins : List Int} (hl : ins.length = H.length) (hs : ∀ s ∈ ins, 0 ≤ s ∧ s < st) : 0 ≤ valT N ins ∧ valT N ins < st := by
  obtain ⟨h1, _, h2⟩ := valK_inv h hl hs ins.length (Nat.le_refl _)
  rw [valK_all rfl] at h1 h2
  exact ⟨h1, h2 rfl⟩
end
end Go.Proofs.YtellglbmbocgkaaGreatDoor
end
section
namespace Go.Proofs.YtellglbmbocgkaaGreatDoor
open Go Go.RowKit
/-- The new state at a position. -/
def nxT (H : List (Int × Int)) (N : List (Int × List Int)) (p : List (Int × Int × Int)) (x y : Int) : Int := valT N (H.map fun o => getC p (x + o.1) (y + o.2))
/-- The positions whose neighbourhoods meet the pattern. -/
def candL (H : List (Int × Int)) (p : List (Int × Int × Int)) : List (Int × Int) := p.flatMap fun c => H.map fun o => (c.1 - o.1, c.2.1 - o.2)
def dd : List (Int × Int) → List (Int × Int)
  | [] => []
  | a :: l => a :: (dd l).filter fun q => decide (q ≠ a)
theorem dd_mem {q : Int × Int} : ∀ {l : List (Int × Int)}, q ∈ dd l ↔ q ∈ l
  | [] => Iff.rfl
  | a :: l => by
    unfold dd
    rw [List.mem_cons, List.mem_cons, List.mem_filter, dd_mem (l := l)]
    by_cases h : q = a
    · simp [h]
    · simp [h]
theorem dd_nodup : ∀ l : List (Int × Int), (dd l).Nodup
  | [] => List.nodup_nil
  | a :: l => by
    unfold dd
    refine List.nodup_cons.2 ⟨fun h => ?_, (dd_nodup l).filter _⟩
    have := (List.mem_filter.1 h).2
    simp at this
def genR (H : List (Int × Int)) (N : List (Int × List Int)) (p : List (Int × Int × Int)) : List (Int × Int × Int) := (dd (candL H p)).filterMap fun q => if nxT H N p q.1 q.2 = 0 then none else some (q.1, q.2, nxT H N p q.1 q.2)
/-- A list of the cells of the next generation that are not 0, in any order. -/
def IsGen (H : List (Int × Int)) (N : List (Int × List Int)) (p l : List (Int × Int × Int)) : Prop := (l.map posD).Nodup ∧ ∀ x y s, (x, y, s) ∈ l ↔ s = nxT H N p x y ∧ s ≠ 0
/-- The same, of some positions only. -/
def GenC (cand : List (Int × Int)) (H : List (Int × Int)) (N : List (Int × List Int)) (p l : List (Int × Int × Int)) : Prop := (l.map posD).Nodup ∧ ∀ x y s, (x, y, s) ∈ l ↔ (x, y) ∈ cand ∧ s = nxT H N p x y ∧ s ≠ 0
/-- The rule is quiet and the pattern fits it. -/
structure FitsR (st : Int) (H : List (Int × Int)) (N : List (Int × List Int)) (p : List (Int × Int × Int)) : Prop where
  rule : trQ st H N = true
  pat : rightC p = true
  top : ∀ c ∈ p, c.2.2 < st
def plD (c : Int × Int × Int) : Bool := validB c.1 c.2.1
def stE (H : List (Int × Int)) (N : List (Int × List Int)) (p : List (Int × Int × Int)) : Int := if (genR H N p).all plD = true then (if 5000 < (genR H N p).length then 6 else 0) else 5
def stL (H : List (Int × Int)) (N : List (Int × List Int)) (p : List (Int × Int × Int)) : List (Int × Int × Int) := if stE H N p = 0 then srtC (genR H N p) else []
section
variable {st : Int} {H : List (Int × Int)} {N : List (Int × List Int)} {p l l' : List (Int × Int × Int)} {x y s : Int} {cand : List (Int × Int)}
theorem trQ_parts (h : trQ st H N = true) : trR st H N = true ∧ valT N (List.replicate H.length 0) = 0 := by
  unfold trQ at h
  rw [Bool.and_eq_true, decide_eq_true_eq] at h
  exact h
theorem getC_or (h : SSC p) (x y : Int) : getC p x y = 0 ∨ ∃ s, (x, y, s) ∈ p ∧ getC p x y = s := by
  by_cases hx : ∃ s, (x, y, s) ∈ p
  · obtain ⟨s, hs⟩ := hx
    exact .inr ⟨s, hs, getC_mem h hs⟩
  · refine .inl (getC_not fun c hc e => hx ⟨c.2.2, ?_⟩)
    obtain ⟨a, b, s⟩ := c
    obtain ⟨rfl, rfl⟩ := e
    exact hc
theorem cell_right (h : rightC p = true) (hm : (x, y, s) ∈ p) : Pt x y ∧ 1 ≤ s ∧ s ≤ 7 := by
  obtain ⟨i, hi⟩ := List.getElem?_of_mem hm
  exact rightC_elem h hi
theorem FitsR.get (h : FitsR st H N p) (x y : Int) : 0 ≤ getC p x y ∧ getC p x y < st := by
  have hst := (trR_parts (trQ_parts h.rule).1).1
  rcases getC_or (rightC_sorted h.pat) x y with e | ⟨s, hs, e⟩
  · rw [e]; omega
  · have h1 := cell_right h.pat hs
    have h2 := h.top _ hs
    rw [e]; simp only at h2; omega
theorem FitsR.range (h : FitsR st H N p) (x y : Int) : 0 ≤ nxT H N p x y ∧ nxT H N p x y < st := by
  refine valT_range (trQ_parts h.rule).1 (by simp) fun s hs => ?_
  obtain ⟨o, _, rfl⟩ := List.mem_map.1 hs
  exact h.get _ _
theorem nx_zero (h : trQ st H N = true) (h0 : ∀ o ∈ H, getC p (x + o.1) (y + o.2) = 0) : nxT H N p x y = 0 := by
  unfold nxT
  rw [show (H.map fun o => getC p (x + o.1) (y + o.2)) = List.replicate H.length 0 from ?_]
  · exact (trQ_parts h).2
  · rw [List.eq_replicate_iff]
    refine ⟨by simp, fun b hb => ?_⟩
    obtain ⟨o, ho, rfl⟩ := List.mem_map.1 hb
    exact h0 o ho
/-- A position whose new state is not 0 has a cell in its neighbourhood. -/
theorem nx_cell (h : trQ st H N = true) (hS : SSC p) (hn : nxT H N p x y ≠ 0) : ∃ o ∈ H, ∃ s, (x + o.1, y + o.2, s) ∈ p := by
  by_cases hx : ∃ o ∈ H, getC p (x + o.1) (y + o.2) ≠ 0
  · obtain ⟨o, ho, hg⟩ := hx
    rcases getC_or hS (x + o.1) (y + o.2) with e | ⟨s, hs, _⟩
    · exact absurd e hg
    · exact ⟨o, ho, s, hs⟩
  · refine absurd (nx_zero h fun o ho => ?_) hn
    by_cases hg : getC p (x + o.1) (y + o.2) = 0
    · exact hg
    · exact absurd ⟨o, ho, hg⟩ hx
theorem mem_cand {q : Int × Int} : q ∈ candL H p ↔ ∃ c ∈ p, ∃ o ∈ H, q = (c.1 - o.1, c.2.1 - o.2) := by
  unfold candL
  simp only [List.mem_flatMap, List.mem_map]
  constructor
  · rintro ⟨c, hc, o, ho, rfl⟩; exact ⟨c, hc, o, ho, rfl⟩
  · rintro ⟨c, hc, o, ho, rfl⟩; exact ⟨c, hc, o, ho, rfl⟩
theorem nx_cand (h : trQ st H N = true) (hS : SSC p) (hn : nxT H N p x y ≠ 0) : (x, y) ∈ candL H p := by
  obtain ⟨o, ho, s, hs⟩ := nx_cell h hS hn
  refine mem_cand.2 ⟨_, hs, o, ho, ?_⟩
  simp only [Prod.mk.injEq]
  omega
theorem genR_is (h : trQ st H N = true) (hS : SSC p) : IsGen H N p (genR H N p) := by
  unfold genR
  refine ⟨?_, fun x y s => ?_⟩
  · have key : ∀ l : List (Int × Int), ((l.filterMap fun q => if nxT H N p q.1 q.2 = 0 then none else some (q.1, q.2, nxT H N p q.1 q.2)).map posD).Sublist l := by
      intro l
      induction l with
      | nil => exact List.Sublist.refl _
      | cons q l ih =>
        rw [List.filterMap_cons]
        by_cases h0 : nxT H N p q.1 q.2 = 0
        · rw [if_pos h0]; exact ih.cons _
        · rw [if_neg h0]; exact ih.cons_cons _
    exact (dd_nodup _).sublist (key _)
  · rw [List.mem_filterMap]
    constructor
    · rintro ⟨q, _, hq⟩
      by_cases h0 : nxT H N p q.1 q.2 = 0
      · rw [if_pos h0] at hq; cases hq
      · rw [if_neg h0] at hq
        simp only [Option.some.injEq, Prod.mk.injEq] at hq
        obtain ⟨rfl, rfl, rfl⟩ := hq
        exact ⟨rfl, h0⟩
    · rintro ⟨rfl, hn⟩
      exact ⟨(x, y), dd_mem.2 (nx_cand h hS hn), by rw [if_neg hn]⟩
theorem IsGen.srt (h : IsGen H N p l) (h' : IsGen H N p l') : srtC l = srtC l' ∧ l.length = l'.length ∧ l.all plD = l'.all plD := by
  have hm : ∀ z, z ∈ l ↔ z ∈ l' := fun ⟨x, y, s⟩ => by rw [h.2, h'.2]
  have e : srtC l = srtC l' := srt_eq h.1 (srt_of h'.1) fun z => by rw [(srtC_perm l').mem_iff, hm]
  refine ⟨e, by rw [← (srtC_perm l).length_eq, e, (srtC_perm l').length_eq], ?_⟩
  rw [Bool.eq_iff_iff, List.all_eq_true, List.all_eq_true]
  exact ⟨fun g z hz => g z ((hm z).2 hz), fun g z hz => g z ((hm z).1 hz)⟩
/-- What From answers for good cells at different positions. -/
theorem fr_cells (hv : okCells l) (hn : (l.map posD).Nodup) : frE l = (if 5000 < l.length then 6 else 0) ∧ frL l = if 5000 < l.length then [] else srtC l := by
  by_cases hl : 5000 < l.length
  · rw [if_pos hl, if_pos hl]
    have hz : nz l = l := List.filter_eq_self.2 fun c hc => by unfold nzC; exact decide_eq_true (by have := hv c hc; omega)
    have hf : frFirst l = 0 := by
      refine frFirst_good fun i d hd => ?_
      have := hv d (List.mem_of_getElem? hd)
      obtain ⟨x, y, s⟩ := d
      exact frBad_ok' (validB_iff.2 this.1) (by have := this.2.1; simp only at this; omega) this.2.2
    have he : frE l = 6 := frE_size hf (by rw [hz]; exact ssB_iff.2 (srt_of hn)) (by rw [hz]; exact hl)
    exact ⟨he, frL_no he (by omega)⟩
  · rw [if_neg hl, if_neg hl]
    exact frL_cells hv hn (by omega)
theorem IsGen.ok (h : IsGen H N p l) (hf : FitsR st H N p) (hp : l.all plD = true) : okCells l := by
  rintro ⟨x, y, s⟩ hc
  have hst := (trR_parts (trQ_parts hf.rule).1).1
  obtain ⟨e, h0⟩ := (h.2 x y s).1 hc
  have hr := hf.range x y
  rw [← e] at hr
  exact ⟨validB_iff.1 ((List.all_eq_true.1 hp) _ hc), by simp only; omega, by simp only; omega⟩
/-- The program's way: From of the cells found. -/
theorem fr_gen (hf : FitsR st H N p) (h : IsGen H N p l) (hp : l.all plD = true) : frE l = stE H N p ∧ frL l = stL H N p := by
  obtain ⟨e1, e2, e3⟩ := h.srt (genR_is hf.rule (rightC_sorted hf.pat))
  obtain ⟨f1, f2⟩ := fr_cells (h.ok hf hp) h.1
  rw [hp] at e3
  have hE : stE H N p = if 5000 < l.length then 6 else 0 := by unfold stE; rw [if_pos e3.symm, e2]
  refine ⟨by rw [f1, hE], ?_⟩
  unfold stL
  rw [f2, hE]
  by_cases hl : 5000 < l.length
  · rw [if_pos hl, if_pos hl, if_neg (by omega)]
  · rw [if_neg hl, if_neg hl, if_pos rfl, e1]
theorem st_bad (hf : FitsR st H N p) (h : ∃ x y, nxT H N p x y ≠ 0 ∧ ¬ Pt x y) : stE H N p = 5 ∧ stL H N p = [] := by
  obtain ⟨x, y, h1, h2⟩ := h
  have hg := genR_is hf.rule (rightC_sorted hf.pat)
  have e : stE H N p = 5 := by
    unfold stE
    rw [if_neg]
    intro hp
    exact h2 (validB_iff.1 ((List.all_eq_true.1 hp) _ ((hg.2 x y _).2 ⟨rfl, h1⟩)))
  exact ⟨e, by unfold stL; rw [e, if_neg (by omega)]⟩
theorem st_fits (hf : FitsR st H N p) : FitsR st H N (stL H N p) := by
  have hg := genR_is hf.rule (rightC_sorted hf.pat)
  unfold stL
  by_cases he : stE H N p = 0
  · rw [if_pos he]
    have hp : (genR H N p).all plD = true := by
      unfold stE at he
      by_cases hp : (genR H N p).all plD = true
      · exact hp
      · rw [if_neg hp] at he; omega
    have hl : (genR H N p).length ≤ 5000 := by
      unfold stE at he
      rw [if_pos hp] at he
      by_cases hl : 5000 < (genR H N p).length
      · rw [if_pos hl] at he; omega
      · omega
    have hok := hg.ok hf hp
    refine ⟨hf.rule, rightC_of (by rw [(srtC_perm _).length_eq]; exact hl) (fun c hc => hok c ((srtC_perm _).mem_iff.1 hc)) (srt_of hg.1), fun c hc => ?_⟩
    obtain ⟨x, y, s⟩ := c
    obtain ⟨e, _⟩ := (hg.2 x y s).1 ((srtC_perm _).mem_iff.1 hc)
    have := hf.range x y
    simp only
    omega
  · rw [if_neg he]
    exact ⟨hf.rule, by decide, fun c hc => by cases hc⟩
theorem genC_nil : GenC [] H N p [] := ⟨List.nodup_nil, fun x y s => by simp⟩
theorem GenC.old {q : Int × Int} (h : GenC cand H N p l) (hq : q ∈ cand) : GenC (cand ++ [q]) H N p l := by
  refine ⟨h.1, fun x y s => ?_⟩
  rw [h.2, List.mem_append]
  constructor
  · rintro ⟨h1, h2⟩; exact ⟨.inl h1, h2⟩
  · rintro ⟨h1 | h1, h2⟩
    · exact ⟨h1, h2⟩
    · rw [List.mem_singleton] at h1; exact ⟨by rw [h1]; exact hq, h2⟩
theorem GenC.zero {a b : Int} (h : GenC cand H N p l) (h0 : nxT H N p a b = 0) : GenC (cand ++ [(a, b)]) H N p l := by
  refine ⟨h.1, fun x y s => ?_⟩
  rw [h.2, List.mem_append]
  constructor
  · rintro ⟨h1, h2⟩; exact ⟨.inl h1, h2⟩
  · rintro ⟨h1 | h1, h2⟩
    · exact ⟨h1, h2⟩
    · simp only [List.mem_singleton, Prod.mk.injEq] at h1
      obtain ⟨rfl, rfl⟩ := h1
      exact absurd (h2.1.trans h0) h2.2
theorem GenC.new {a b : Int} (h : GenC cand H N p l) (hq : (a, b) ∉ cand) (h0 : nxT H N p a b ≠ 0) : GenC (cand ++ [(a, b)]) H N p (l ++ [(a, b, nxT H N p a b)]) := by
  refine ⟨?_, fun x y s => ?_⟩
  · rw [List.map_append, List.nodup_append]
    refine ⟨h.1, by simp, fun u hu v hv e => ?_⟩
    obtain ⟨⟨x, y, s⟩, hx, rfl⟩ := List.mem_map.1 hu
    simp only [List.map_cons, List.map_nil, List.mem_singleton] at hv
    rw [hv] at e
    unfold posD at e
    simp only [Prod.mk.injEq] at e
    obtain ⟨rfl, rfl⟩ := e
    exact hq ((h.2 x y s).1 hx).1
  · rw [List.mem_append, h.2, List.mem_append]
    simp only [List.mem_singleton, Prod.mk.injEq]
    constructor
    · rintro (⟨h1, h2⟩ | ⟨rfl, rfl, rfl⟩)
      · exact ⟨.inl h1, h2⟩
      · exact ⟨.inr ⟨rfl, rfl⟩, rfl, h0⟩
    · rintro ⟨h1 | ⟨rfl, rfl⟩, h2⟩
      · exact .inl ⟨h1, h2⟩
      · exact .inr ⟨rfl, rfl, h2.1⟩
theorem GenC.full (h : GenC (candL H p) H N p l) (hr : trQ st H N = true) (hS : SSC p) : IsGen H N p l := by
  refine ⟨h.1, fun x y s => ?_⟩
  rw [h.2]
  constructor
  · rintro ⟨_, h2⟩; exact h2
  · intro h2; exact ⟨nx_cand hr hS (by rw [← h2.1]; exact h2.2), h2⟩
theorem cand_step {i : Nat} {c : Int × Int × Int} (h : p[i]? = some c) : candL H (p.take (i + 1)) = candL H (p.take i) ++ H.map fun o => (c.1 - o.1, c.2.1 - o.2) := by
  unfold candL
  rw [List.take_add_one, h, List.flatMap_append]
  simp
end
end Go.Proofs.YtellglbmbocgkaaGreatDoor
end
section
namespace Go.Proofs.YtellglbmbocgkaaGreatDoor
open Go Go.RowKit
def fitE (st : Int) (H : List (Int × Int)) (N : List (Int × List Int)) (p : List (Int × Int × Int)) : Int :=
  if trQ st H N = true then (if rightC p = true then (if p.any (fun c => decide (st ≤ c.2.2)) = true then 10 else 0) else 2) else 11
def itS (H : List (Int × Int)) (N : List (Int × List Int)) (p : List (Int × Int × Int)) : Nat → Int × List (Int × Int × Int)
  | 0 => (0, p)
  | k + 1 => if (itS H N p k).1 = 0 then (stE H N (itS H N p k).2, stL H N (itS H N p k).2) else ((itS H N p k).1, [])
def runE (st : Int) (H : List (Int × Int)) (N : List (Int × List Int)) (p : List (Int × Int × Int)) (n : Int) : Int := if fitE st H N p = 0 then (if n < 0 ∨ 10000 < n then 2 else (itS H N p n.toNat).1) else fitE st H N p
def runL (st : Int) (H : List (Int × Int)) (N : List (Int × List Int)) (p : List (Int × Int × Int)) (n : Int) : List (Int × Int × Int) := if runE st H N p n = 0 then (itS H N p n.toNat).2 else []
def hisL (st : Int) (H : List (Int × Int)) (N : List (Int × List Int)) (p : List (Int × Int × Int)) (n : Int) : List (List (Int × Int × Int)) := if runE st H N p n = 0 then (List.range (n.toNat + 1)).map fun k => (itS H N p k).2 else []
section
variable {st : Int} {H : List (Int × Int)} {N : List (Int × List Int)} {p l a b : List (Int × Int × Int)} {x y s dx dy : Int}
theorem fit_iff : fitE st H N p = 0 ↔ FitsR st H N p := by
  unfold fitE
  constructor
  · intro h
    by_cases h1 : trQ st H N = true
    · rw [if_pos h1] at h
      by_cases h2 : rightC p = true
      · rw [if_pos h2] at h
        by_cases h3 : p.any (fun c => decide (st ≤ c.2.2)) = true
        · rw [if_pos h3] at h; omega
        · refine ⟨h1, h2, fun c hc => ?_⟩
          rcases Int.lt_or_le c.2.2 st with g | g
          · exact g
          · exact absurd (List.any_eq_true.2 ⟨c, hc, decide_eq_true g⟩) h3
      · rw [if_neg h2] at h; omega
    · rw [if_neg h1] at h; omega
  · intro h
    rw [if_pos h.rule, if_pos h.pat, if_neg]
    intro h3
    obtain ⟨c, hc, g⟩ := List.any_eq_true.1 h3
    have := h.top c hc
    have := of_decide_eq_true g
    omega
theorem fit_rule (h : trQ st H N = false) : fitE st H N p = 11 := by unfold fitE; rw [h]; rfl
theorem fit_pat (h : trQ st H N = true) (h2 : rightC p = false) : fitE st H N p = 2 := by unfold fitE; rw [if_pos h, h2]; rfl
theorem fit_top (h : trQ st H N = true) (h2 : rightC p = true) : fitE st H N p = if p.any (fun c => decide (st ≤ c.2.2)) = true then 10 else 0 := by unfold fitE; rw [if_pos h, if_pos h2]
theorem top_fold : ∀ (p : List (Int × Int × Int)) (m : Int), st ≤ p.foldl (fun m c => max m c.2.2) m ↔ st ≤ m ∨ ∃ c ∈ p, st ≤ c.2.2
  | [], m => by simp
  | c :: p, m => by
    rw [List.foldl_cons, top_fold p]
    constructor
    · rintro (h | ⟨d, hd, h⟩)
      · by_cases h1 : st ≤ m
        · exact .inl h1
        · exact .inr ⟨c, by simp, by omega⟩
      · exact .inr ⟨d, by simp [hd], h⟩
    · rintro (h | ⟨d, hd, h⟩)
      · exact .inl (by omega)
      · rcases List.mem_cons.1 hd with rfl | hd
        · exact .inl (by omega)
        · exact .inr ⟨d, hd, h⟩
theorem top_any (h : 0 < st) : p.any (fun c => decide (st ≤ c.2.2)) = decide (st ≤ topC p) := by
  rw [Bool.eq_iff_iff, List.any_eq_true, decide_eq_true_eq]
  unfold topC
  rw [top_fold]
  constructor
  · rintro ⟨c, hc, g⟩; exact .inr ⟨c, hc, of_decide_eq_true g⟩
  · rintro (g | ⟨c, hc, g⟩)
    · omega
    · exact ⟨c, hc, decide_eq_true g⟩
theorem nil_fits (h : trQ st H N = true) : FitsR st H N [] := ⟨h, by decide, fun c hc => by cases hc⟩
theorem it_fits (hf : FitsR st H N p) : ∀ k, FitsR st H N (itS H N p k).2
  | 0 => hf
  | k + 1 => by
    unfold itS
    split
    · exact st_fits (it_fits hf k)
    · exact nil_fits hf.rule
theorem it_step {k : Nat} (h : (itS H N p k).1 = 0) : itS H N p (k + 1) = (stE H N (itS H N p k).2, stL H N (itS H N p k).2) := by
  show (if _ then _ else _) = _
  rw [if_pos h]
theorem it_stuck {k : Nat} {e : Int} (h : (itS H N p k).1 = e) (he : e ≠ 0) : ∀ j, (itS H N p (k + j)).1 = e
  | 0 => h
  | j + 1 => by
    have ih := it_stuck h he j
    show (itS H N p (k + j + 1)).1 = e
    unfold itS
    rw [if_neg (by rw [ih]; exact he)]
    exact ih
theorem it_add {m : Nat} (h : (itS H N p m).1 = 0) : ∀ k, (itS H N (itS H N p m).2 k) = itS H N p (m + k)
  | 0 => by
    show ((0 : Int), (itS H N p m).2) = itS H N p m
    rw [← h]
  | k + 1 => by
    have ih := it_add h k
    show (if _ then _ else _) = (if _ then _ else _)
    rw [ih]
    rfl
theorem it_err {k : Nat} (h : (itS H N p k).1 ≠ 0) : (itS H N p k).2 = [] := by
  cases k with
  | zero => exact absurd rfl h
  | succ k =>
    by_cases h0 : (itS H N p k).1 = 0
    · rw [it_step h0] at h ⊢
      simp only at h ⊢
      unfold stL; rw [if_neg h]
    · show (if _ then _ else _ : Int × List (Int × Int × Int)).2 = []
      rw [if_neg h0]
end
end Go.Proofs.YtellglbmbocgkaaGreatDoor
end
section
namespace Go.Proofs.YtellglbmbocgkaaGreatDoor
open Go Go.RowKit
section
variable {α β : Type}
theorem find_at {p : Nat → Bool} : ∀ {n j : Nat}, j < n → (∀ i, i < j → p i = false) → p j = true → (List.range n).find? p = some j
  | 0, j, h, _, _ => by omega
  | n + 1, j, h, hb, hj => by
    rw [List.range_succ, List.find?_append]
    by_cases e : j = n
    · subst e
      rw [List.find?_eq_none.2 (fun x hx => by rw [hb x (List.mem_range.1 hx)]; simp)]
      simp [List.find?_cons, hj]
    · rw [find_at (by omega) hb hj]; rfl
theorem find_no {p : Nat → Bool} {n : Nat} (h : ∀ i, i < n → p i = false) : (List.range n).find? p = none :=
  List.find?_eq_none.2 fun x hx => by rw [h x (List.mem_range.1 hx)]; simp
theorem fsome_at {f : Nat → Option β} {b : β} : ∀ {n j : Nat}, j < n → (∀ i, i < j → f i = none) → f j = some b → (List.range n).findSome? f = some b
  | 0, j, h, _, _ => by omega
  | n + 1, j, h, hb, hj => by
    rw [List.range_succ, List.findSome?_append]
    by_cases e : j = n
    · subst e
      rw [List.findSome?_eq_none_iff.2 (fun x hx => hb x (List.mem_range.1 hx))]
      simp [List.findSome?_cons, hj]
    · rw [fsome_at (by omega) hb hj]; rfl
theorem fsome_no {f : Nat → Option β} {n : Nat} (h : ∀ i, i < n → f i = none) : (List.range n).findSome? f = none :=
  List.findSome?_eq_none_iff.2 fun x hx => h x (List.mem_range.1 hx)
end
def atE (key : Int) (fs : List TFr) (k : Int) : Int := if tlB key fs = true then (if 0 ≤ k ∧ k < (fs.length : Int) then 0 else 13) else 2
def atL (key : Int) (fs : List TFr) (k : Int) : List Cel := if atE key fs k = 0 then (tlP key fs).getD k.toNat [] else []
def dfB (ga gb : List Int) (la lb : List (List Cel)) (i : Nat) : Bool := decide (la.length ≤ i ∨ lb.length ≤ i) || decide (ga.getD i 0 ≠ gb.getD i 0) || !sameL (la.getD i []) (lb.getD i [])
def dfO (ga gb : List Int) (la lb : List (List Cel)) : Option Nat := (List.range (max la.length lb.length)).find? (dfB ga gb la lb)
def dfR (ga gb : List Int) (la lb : List (List Cel)) : Int × List Chg × Bool := match dfO ga gb la lb with
  | none => (0, [], false)
  | some i => (i, if la.length ≤ i ∨ lb.length ≤ i then [] else ofL (la.getD i []) (lb.getD i []), true)
def dfE (ka : Int) (a : List TFr) (kb : Int) (b : List TFr) : Int := if tlB ka a = true ∧ tlB kb b = true then 0 else 2
def dfL (ka : Int) (a : List TFr) (kb : Int) (b : List TFr) : Int × List Chg × Bool := if dfE ka a kb b = 0 then dfR (gnL a) (gnL b) (tlP ka a) (tlP kb b) else (0, [], false)
section
variable {st key g gen k : Int} {K j n m : Nat} {fs : List TFr} {p : List Cel} {H : List (Int × Int)} {N : List (Int × List Int)}
theorem tlP_eq (h : tlB key fs = true) : tlP key fs = patL fs fs.length := by unfold tlP; rw [if_pos h]
theorem tlP_len (h : tlB key fs = true) : (tlP key fs).length = fs.length := by rw [tlP_eq h, pat_len _ (Nat.le_refl _)]
theorem tlP_right (h : tlB key fs = true) : ∀ p ∈ tlP key fs, rightC p = true := by
  obtain ⟨K, hK, h1, h2, h3, h4⟩ := tlB_ok h
  rw [tlP_eq h]
  exact pat_right h4 _ (Nat.le_refl _)
theorem bld_tl {g : List Int} {l : List (List Cel)} (h1 : 1 ≤ key ∧ key ≤ 100) (hn : n ≤ 1000) (hl : l.length = n) (hr : ∀ p ∈ l, rightC p = true) (hg : ∀ j, j < n → g.getD j 0 ≤ 2147483647 ∧ 0 ≤ g.getD j 0 ∧ (0 < j → g.getD (j - 1) 0 < g.getD j 0)) :
    tlB key (bldL key.toNat g l n) = true ∧ tlP key (bldL key.toNat g l n) = l := by
  obtain ⟨K, rfl⟩ : ∃ K : Nat, key = K := ⟨key.toNat, by omega⟩
  rw [Int.toNat_natCast]
  obtain ⟨h2, h3⟩ := bld_ok (K := K) (by omega) hl hr hg
  have hB : tlB (K : Int) (bldL K g l n) = true := tlB_all rfl h1 (bld_len n) hn fun i _ => h2 i
  refine ⟨hB, ?_⟩
  rw [tlP_eq hB, bld_len, h3]
theorem df_self (h : tlB key fs = true) : dfE key fs key fs = 0 ∧ dfL key fs key fs = (0, [], false) := by
  have hE : dfE key fs key fs = 0 := by unfold dfE; rw [if_pos ⟨h, h⟩]
  refine ⟨hE, ?_⟩
  unfold dfL dfR dfO
  rw [if_pos hE, find_no]
  intro i hi
  unfold dfB
  rw [decide_eq_false (by omega), decide_eq_false (by simp)]
  unfold sameL
  simp
end
def foS (st : Int) (H : List (Int × Int)) (N : List (Int × List Int)) (gs : List Int) (l : List (List Cel)) (i : Nat) : Option (Int × Int) :=
  if i = 0 then none else if 10000 < gs.getD i 0 - gs.getD (i - 1) 0 then some (0, 14)
  else if runE st H N (l.getD (i - 1) []) (gs.getD i 0 - gs.getD (i - 1) 0) = 0 then (if sameL (runL st H N (l.getD (i - 1) []) (gs.getD i 0 - gs.getD (i - 1) 0)) (l.getD i []) = true then none else some ((i : Int), 0))
  else some (0, runE st H N (l.getD (i - 1) []) (gs.getD i 0 - gs.getD (i - 1) 0))
def foR (st : Int) (H : List (Int × Int)) (N : List (Int × List Int)) (gs : List Int) (l : List (List Cel)) : Int × Int := ((List.range l.length).findSome? (foS st H N gs l)).getD (-1, 0)
def foT (st : Int) (l : List (List Cel)) : Bool := l.any fun p => decide (st ≤ topC p)
def foL (st : Int) (H : List (Int × Int)) (N : List (Int × List Int)) (key : Int) (fs : List TFr) : Int × Int :=
  if trQ st H N = true then (if tlB key fs = true then (if foT st (tlP key fs) = true then (0, 10) else foR st H N (gnL fs) (tlP key fs)) else (0, 2)) else (0, 11)
def rcE (st : Int) (H : List (Int × Int)) (N : List (Int × List Int)) (p : List Cel) (n key : Int) : Int :=
  if runE st H N p 0 = 0 then (if n < 0 ∨ 10000 < n ∨ key < 1 ∨ 100 < key then 2 else if 1000 ≤ n then 6 else runE st H N p n) else runE st H N p 0
def nnL (n : Nat) : List Int := (List.range n).map fun i : Nat => (i : Int)
def rcL (st : Int) (H : List (Int × Int)) (N : List (Int × List Int)) (p : List Cel) (n key : Int) : List TFr :=
  if rcE st H N p n key = 0 then bldL key.toNat (nnL (n.toNat + 1)) (hisL st H N p n) (n.toNat + 1) else []
section
variable {st key : Int} {n k : Nat} {p : List Cel} {H : List (Int × Int)} {N : List (Int × List Int)}
theorem run0 : runE st H N p 0 = fitE st H N p := by
  unfold runE
  by_cases h : fitE st H N p = 0
  · rw [if_pos h, if_neg (by omega), h]; rfl
  · rw [if_neg h]
theorem rc_ok {nn : Int} (h : rcE st H N p nn key = 0) : FitsR st H N p ∧ (0 ≤ nn ∧ nn < 1000) ∧ (1 ≤ key ∧ key ≤ 100) ∧ runE st H N p nn = 0 := by
  unfold rcE at h
  split at h
  · rename_i h0
    split at h
    · omega
    · split at h
      · omega
      · exact ⟨fit_iff.1 (by rw [← run0]; exact h0), by omega, by omega, h⟩
  · rename_i h0; exact absurd h h0
theorem runX (hf : FitsR st H N p) (hm : k ≤ 10000) : runE st H N p k = (itS H N p k).1 ∧ runL st H N p k = (itS H N p k).2 := by
  have h1 : runE st H N p k = (itS H N p k).1 := by
    unfold runE; rw [if_pos (fit_iff.2 hf), if_neg (by omega), Int.toNat_natCast]
  refine ⟨h1, ?_⟩
  unfold runL
  rw [Int.toNat_natCast]
  by_cases h0 : runE st H N p k = 0
  · rw [if_pos h0]
  · rw [if_neg h0]
    exact (it_err (by rw [← h1]; exact h0)).symm
theorem it_preX (h : (itS H N p n).1 = 0) (hk : k ≤ n) : (itS H N p k).1 = 0 := by
  refine Decidable.byContradiction fun he => ?_
  have := it_stuck (H := H) (N := N) (p := p) rfl he (n - k)
  rw [show k + (n - k) = n by omega, h] at this
  exact he this.symm
theorem nn_get {i : Nat} (h : i < n) : (nnL n).getD i 0 = (i : Int) := getD_of (by unfold nnL; rw [List.getElem?_map, List.getElem?_range h]; rfl)
theorem his_get {i : Nat} (h : runE st H N p n = 0) (hi : i ≤ n) : (hisL st H N p n)[i]? = some (itS H N p i).2 := by
  unfold hisL
  rw [if_pos h, Int.toNat_natCast, List.getElem?_map, List.getElem?_range (by omega)]; rfl
theorem his_len' (h : runE st H N p n = 0) : (hisL st H N p n).length = n + 1 := by
  unfold hisL; rw [if_pos h, Int.toNat_natCast]; simp
theorem rc_tl (h : rcE st H N p n key = 0) : tlB key (rcL st H N p n key) = true ∧ tlP key (rcL st H N p n key) = hisL st H N p n ∧ (rcL st H N p n key).length = n + 1 ∧ ∀ i, i ≤ n → (gnL (rcL st H N p n key)).getD i 0 = (i : Int) := by
  obtain ⟨hf, hn, hk, hr⟩ := rc_ok h
  have hl := his_len' hr
  unfold rcL
  rw [if_pos h, Int.toNat_natCast]
  obtain ⟨a, b⟩ := bld_tl (g := nnL (n + 1)) (l := hisL st H N p n) (n := n + 1) hk (by omega) hl
    (by
      intro q hq
      obtain ⟨i, hi⟩ := List.getElem?_of_mem hq
      have hi2 : i < n + 1 := by have := (List.getElem?_eq_some_iff.1 hi).1; omega
      rw [his_get hr (by omega)] at hi
      injection hi with hi
      rw [← hi]
      exact (it_fits hf i).pat)
    (by
      intro i hi
      rw [nn_get hi]
      refine ⟨by omega, by omega, fun h0 => ?_⟩
      rw [nn_get (by omega)]
      omega)
  refine ⟨a, b, bld_len _, fun i hi => ?_⟩
  refine getD_of ?_
  unfold gnL
  rw [List.getElem?_map, bld_at _ (by omega)]
  show some ((nnL (n + 1)).getD i 0) = _
  rw [nn_get (by omega)]
theorem rc_at (h : rcE st H N p n key = 0) (hk : k ≤ n) : atE key (rcL st H N p n key) k = 0 ∧ atL key (rcL st H N p n key) k = runL st H N p k ∧ runE st H N p k = 0 := by
  obtain ⟨hf, hn, _, hr⟩ := rc_ok h
  obtain ⟨h1, h2, h3, _⟩ := rc_tl h
  have hE : atE key (rcL st H N p n key) k = 0 := by unfold atE; rw [if_pos h1, if_pos (by omega)]
  have hi : (itS H N p n).1 = 0 := by rw [← (runX hf (by omega)).1]; exact hr
  refine ⟨hE, ?_, ?_⟩
  · unfold atL
    rw [if_pos hE, h2, Int.toNat_natCast, getD_of (his_get hr hk), (runX hf (by omega)).2]
  · rw [(runX hf (by omega)).1]; exact it_preX hi hk
theorem topC_lt {l : List Cel} : ∀ (m : Int), m < st → (∀ c ∈ l, c.2.2 < st) → l.foldl (fun m p => max m p.2.2) m < st := by
  induction l with
  | nil => intro m hm _; exact hm
  | cons c l ih =>
    intro m hm hc
    rw [List.foldl_cons]
    exact ih _ (by have := hc c (List.mem_cons_self ..); omega) fun d hd => hc d (List.mem_cons_of_mem _ hd)
theorem rc_follows (h : rcE st H N p n key = 0) : foL st H N key (rcL st H N p n key) = (-1, 0) := by
  obtain ⟨hf, hn, _, hr⟩ := rc_ok h
  obtain ⟨h1, h2, h3, h4⟩ := rc_tl h
  have hi : (itS H N p n).1 = 0 := by rw [← (runX hf (by omega)).1]; exact hr
  have hst : 0 < st := by
    have := trQ_parts hf.rule
    have h5 := this.1
    unfold trR at h5
    rw [Bool.and_eq_true, Bool.and_eq_true, Bool.and_eq_true, Bool.and_eq_true, decide_eq_true_eq] at h5
    omega
  have ht : foT st (tlP key (rcL st H N p n key)) = false := by
    unfold foT
    rw [List.any_eq_false, h2]
    intro q hq
    obtain ⟨i, hi2⟩ := List.getElem?_of_mem hq
    have hi3 : i < n + 1 := by have := (List.getElem?_eq_some_iff.1 hi2).1; rw [his_len' hr] at this; omega
    rw [his_get hr (by omega)] at hi2
    injection hi2 with hi2
    have hfq := it_fits hf i
    rw [hi2] at hfq
    have : topC q < st := topC_lt 0 hst hfq.top
    simp; omega
  unfold foL
  rw [if_pos hf.rule, if_pos h1, if_neg (by rw [ht]; simp)]
  unfold foR
  rw [fsome_no]
  · rfl
  · intro i hi2
    rw [h2, his_len' hr] at hi2
    unfold foS
    by_cases h0 : i = 0
    · rw [if_pos h0]
    · obtain ⟨k, rfl⟩ : ∃ k, i = k + 1 := ⟨i - 1, by omega⟩
      have e1 := h4 (k + 1) (by omega)
      have e2 := h4 k (by omega)
      have e3 : ((k + 1 : Nat) : Int) - (k : Int) = ((1 : Nat) : Int) := by omega
      rw [if_neg h0, Nat.add_sub_cancel, e1, e2, e3, if_neg (by omega), h2, getD_of (his_get hr (show k ≤ n by omega)), getD_of (his_get hr (show k + 1 ≤ n by omega))]
      have hfk := it_fits hf k
      have hk0 := it_preX hi (show k ≤ n by omega)
      obtain ⟨g1, g2⟩ := runX (k := 1) hfk (by omega)
      have ha := it_add hk0 1
      rw [ha] at g1 g2
      rw [if_pos (g1.trans (it_preX hi (show k + 1 ≤ n by omega))), g2, if_pos (by unfold sameL; exact decide_eq_true rfl)]
end
end Go.Proofs.YtellglbmbocgkaaGreatDoor
end
section
namespace Go.Proofs.YtellglbmbocgkaaGreatDoor
open Go Go.RowKit
theorem hood_in {H : List (Int × Int)} (h : rightL H = true) : H.length ≤ 25 ∧ ∀ o ∈ H, (-2 ≤ o.1 ∧ o.1 ≤ 2) ∧ -2 ≤ o.2 ∧ o.2 ≤ 2 := by
  unfold rightL at h
  rw [Bool.and_eq_true, decide_eq_true_eq, List.all_eq_true] at h
  refine ⟨h.1.2, fun o ho => ?_⟩
  obtain ⟨i, hi, rfl⟩ := List.getElem_of_mem ho
  have h1 := h.2 i (by simpa using hi)
  unfold okAt at h1
  rw [List.getElem?_eq_getElem hi] at h1
  unfold inR at h1
  simp only [Bool.and_eq_true, decide_eq_true_eq] at h1
  exact ⟨h1.1.1, h1.1.2⟩
section
variable {st : Int} {H : List (Int × Int)} {N : List (Int × List Int)} {p a b all : List (Int × Int × Int)} {x y : Int}
end
end Go.Proofs.YtellglbmbocgkaaGreatDoor
end
section
namespace Go.Proofs.YtellglbmbocgkaaGreatDoor
open Go Go.RowKit
def puF (f : Int → Int → Option Int) (x y v : Int) : Int → Int → Option Int := fun a b => if a = x ∧ b = y then some v else f a b
def ofF (p : List (Int × Int × Int)) : Int → Int → Option Int := p.foldl (fun f c => puF f c.1 c.2.1 c.2.2) (fun _ _ => none)
def getO : List (Int × Int × Int) → Int → Int → Option Int
  | [], _, _ => none
  | c :: l, x, y => if c.1 = x ∧ c.2.1 = y then some c.2.2 else getO l x y
theorem getO_none : ∀ {l : List (Int × Int × Int)} {x y : Int}, (x, y) ∉ l.map posD → getO l x y = none
  | [], _, _, _ => rfl
  | c :: l, x, y, h => by
    show (if c.1 = x ∧ c.2.1 = y then some c.2.2 else getO l x y) = none
    rw [if_neg, getO_none (l := l)]
    · intro hm; exact h (List.mem_cons_of_mem _ hm)
    · rintro ⟨rfl, rfl⟩
      exact h (by rw [List.map_cons]; exact List.mem_cons_self ..)
theorem getO_get : ∀ (l : List (Int × Int × Int)) (x y : Int), (getO l x y).getD 0 = getC l x y
  | [], _, _ => rfl
  | c :: l, x, y => by
    unfold getO getC
    by_cases h : c.1 = x ∧ c.2.1 = y
    · rw [if_pos h, if_pos h]; rfl
    · rw [if_neg h, if_neg h]; exact getO_get l x y
theorem of_fold : ∀ (p : List (Int × Int × Int)) (f : Int → Int → Option Int), (p.map posD).Nodup → ∀ x y, (p.foldl (fun f c => puF f c.1 c.2.1 c.2.2) f) x y = (getO p x y).or (f x y)
  | [], f, _, x, y => by simp [getO]
  | c :: p, f, h, x, y => by
    rw [List.map_cons, List.nodup_cons] at h
    rw [List.foldl_cons, of_fold p _ h.2 x y]
    show _ = (if c.1 = x ∧ c.2.1 = y then some c.2.2 else getO p x y).or _
    by_cases e : c.1 = x ∧ c.2.1 = y
    · obtain ⟨rfl, rfl⟩ := e
      rw [if_pos ⟨rfl, rfl⟩, getO_none (l := p) h.1]
      unfold puF
      simp
    · rw [if_neg e]
      unfold puF
      rw [if_neg (fun h => e ⟨h.1.symm, h.2.symm⟩)]
theorem of_get {p : List (Int × Int × Int)} (h : SSC p) (x y : Int) : (ofF p x y).getD 0 = getC p x y := by
  unfold ofF
  rw [of_fold p _ (ssc_iff.1 h).2 x y, ← getO_get]
  cases getO p x y <;> rfl
theorem of_step {p : List (Int × Int × Int)} {j : Nat} {c : Int × Int × Int} (h : p[j]? = some c) : ofF (p.take (j + 1)) = puF (ofF (p.take j)) c.1 c.2.1 c.2.2 := by
  unfold ofF
  rw [List.take_add_one, h, List.foldl_append]; rfl
theorem of_all {p : List (Int × Int × Int)} {n : Nat} (h : p.length = n) : ofF (p.take n) = ofF p := by
  rw [List.take_of_length_le (by omega)]
/-- The states that a neighbourhood reads. -/
def nbS (H : List (Int × Int)) (p : List (Int × Int × Int)) (x y : Int) : List Int := H.map fun o => getC p (x + o.1) (y + o.2)
theorem nbS_len {H : List (Int × Int)} {p : List (Int × Int × Int)} {x y : Int} : (nbS H p x y).length = H.length := by simp [nbS]
theorem nbS_at {H : List (Int × Int)} {p : List (Int × Int × Int)} {x y : Int} {j : Nat} {o : Int × Int} (h : H[j]? = some o) : (nbS H p x y)[j]? = some (getC p (x + o.1) (y + o.2)) := by
  unfold nbS; rw [List.getElem?_map, h]; rfl
theorem nbS_ok {st : Int} {H : List (Int × Int)} {N : List (Int × List Int)} {p : List (Int × Int × Int)} (hf : FitsR st H N p) (x y : Int) : ∀ s ∈ nbS H p x y, 0 ≤ s ∧ s < st := by
  intro s hs
  obtain ⟨o, _, rfl⟩ := List.mem_map.1 hs
  exact hf.get _ _
theorem nxT_ins {H : List (Int × Int)} {N : List (Int × List Int)} {p : List (Int × Int × Int)} {x y : Int} : nxT H N p x y = valT N (nbS H p x y) := rfl
end Go.Proofs.YtellglbmbocgkaaGreatDoor
end
