/- Plain facts on patterns: lists of cells. No program in sight. -/
import Derived.Test.YtnhnkmppmicjoaaHoodP
import Derived.Test.YtnhnkmppmicjoaaBoxP
import Derived.Test.YtnhnkmppmicjoaaSortP
namespace Go.Proofs.Ytnhnkmppmicjoaa
open Go Go.RowKit
set_option linter.unusedSimpArgs false
set_option linter.unusedVariables false
/-- The position of a cell is ahead of another one's. -/
def cBef (a b : Int × Int × Int) : Bool := befP a.1 a.2.1 b.1 b.2.1
def cmpO (a b : Int × Int × Int) : Int := cmpP a.1 a.2.1 b.1 b.2.1
def okC (l : List (Int × Int × Int)) (i : Nat) : Bool := match l[i]? with
  | none => true
  | some p => validB p.1 p.2.1 && decide (1 ≤ p.2.2 ∧ p.2.2 ≤ 7) && (i == 0 || (match l[i - 1]? with | none => true | some q => cBef q p))
def rightC (l : List (Int × Int × Int)) : Bool := decide (l.length ≤ 5000) && (List.range l.length).all (okC l)
section
variable {l : List (Int × Int × Int)} {n j : Nat} {x y s a b c : Int}
theorem rightC_len (hl : l.length = n) (h : 5000 < n) : rightC l = false := by
  unfold rightC; rw [hl, decide_eq_false (by omega)]; rfl
theorem rightC_bad (hl : l.length = n) (hj : j < n) (h : okC l j = false) : rightC l = false := by
  unfold rightC
  rw [hl, Bool.and_eq_false_iff]
  right
  rw [List.all_eq_false]
  exact ⟨j, by simpa using hj, by simp [h]⟩
theorem rightC_all (hl : l.length = n) (h2 : n ≤ 5000) (h : ∀ j, j < n → okC l j = true) : rightC l = true := by
  unfold rightC
  rw [hl, decide_eq_true (by omega), Bool.true_and, List.all_eq_true]
  intro j hj
  exact h j (by simpa using hj)
theorem okC_step (h : ∀ r, r < j → okC l r = true) (hj : okC l j = true) : ∀ r, r < j + 1 → okC l r = true := by
  intro r hr
  by_cases e : r = j
  · rw [e]; exact hj
  · exact h r (by omega)
theorem okC_place (hx : l[j]? = some (x, y, s)) (h : validB x y = false) : okC l j = false := by
  unfold okC; rw [hx]; simp only [h, Bool.false_and]
theorem okC_state (hx : l[j]? = some (x, y, s)) (h : s < 1 ∨ 7 < s) : okC l j = false := by
  unfold okC; rw [hx]
  have : decide (1 ≤ s ∧ s ≤ 7) = false := decide_eq_false (by omega)
  simp only [this, Bool.and_false, Bool.false_and]
theorem okC_first (hx : l[0]? = some (x, y, s)) (hv : validB x y = true) (h : 1 ≤ s ∧ s ≤ 7) : okC l 0 = true := by
  unfold okC; rw [hx]
  have : decide (1 ≤ s ∧ s ≤ 7) = true := decide_eq_true h
  simp only [this, hv]; rfl
theorem okC_next (hj : 0 < j) (hx : l[j]? = some (x, y, s)) (hp : l[j - 1]? = some (a, b, c)) (hv : validB x y = true) (h : 1 ≤ s ∧ s ≤ 7) : okC l j = befP a b x y := by
  unfold okC; rw [hx, hp]
  have h1 : decide (1 ≤ s ∧ s ≤ 7) = true := decide_eq_true h
  have h2 : (j == 0) = false := by simp; omega
  simp only [h1, hv, h2]; rfl
theorem rightC_ok (h : rightC l = true) : l.length ≤ 5000 ∧ ∀ j, okC l j = true := by
  unfold rightC at h
  rw [Bool.and_eq_true, List.all_eq_true, decide_eq_true_eq] at h
  refine ⟨h.1, fun j => ?_⟩
  by_cases hj : j < l.length
  · exact h.2 j (by simpa using hj)
  · unfold okC; rw [List.getElem?_eq_none (by omega)]
theorem rightC_elem (h : rightC l = true) (hx : l[j]? = some (x, y, s)) : Pt x y ∧ 1 ≤ s ∧ s ≤ 7 := by
  have := (rightC_ok h).2 j
  unfold okC at this
  rw [hx] at this
  simp only [Bool.and_eq_true, decide_eq_true_eq] at this
  exact ⟨validB_iff.1 this.1.1, this.1.2.1, this.1.2.2⟩
end
theorem cBef_irr (a : Int × Int × Int) : cBef a a = false := by unfold cBef befP; exact decide_eq_false (by omega)
theorem cBef_tr {a b c : Int × Int × Int} (h1 : cBef a b = true) (h2 : cBef b c = true) : cBef a c = true := by
  unfold cBef befP at *; simp only [decide_eq_true_eq] at *; omega
/-- Cells in the order of their positions, each position once. -/
def SSC (l : List (Int × Int × Int)) : Prop := l.Pairwise fun a b => cBef a b = true
theorem pairwise_of_next {α : Type} {r : α → α → Prop} (tr : ∀ a b c, r a b → r b c → r a c) : ∀ (l : List α), (∀ j a b, l[j]? = some a → l[j + 1]? = some b → r a b) → l.Pairwise r
  | [], _ => List.Pairwise.nil
  | [a], _ => by simp
  | a :: b :: l, h => by
    have ih := pairwise_of_next tr (b :: l) (fun j x y hx hy => h (j + 1) x y (by simpa using hx) (by simpa using hy))
    refine List.pairwise_cons.2 ⟨fun x hx => ?_, ih⟩
    have hab : r a b := h 0 a b rfl rfl
    rcases List.mem_cons.1 hx with rfl | hm
    · exact hab
    · exact tr _ _ _ hab ((List.pairwise_cons.1 ih).1 x hm)
theorem rightC_sorted {l : List (Int × Int × Int)} (h : rightC l = true) : SSC l := by
  refine pairwise_of_next (r := fun a b => cBef a b = true) (fun a b c h1 h2 => cBef_tr h1 h2) l fun j p q hp hq => ?_
  have := (rightC_ok h).2 (j + 1)
  unfold okC at this
  rw [hq, show j + 1 - 1 = j by omega, hp] at this
  simp only [Bool.and_eq_true, Bool.or_eq_true] at this
  rcases this.2 with h0 | h0
  · simp at h0
  · exact h0
theorem rightC_of {l : List (Int × Int × Int)} (h1 : l.length ≤ 5000) (h2 : ∀ p, p ∈ l → Pt p.1 p.2.1 ∧ 1 ≤ p.2.2 ∧ p.2.2 ≤ 7) (h3 : SSC l) : rightC l = true := by
  refine rightC_all rfl h1 fun j hj => ?_
  obtain ⟨p, hp⟩ : ∃ p, p = l[j] := ⟨_, rfl⟩
  obtain ⟨x, y, s⟩ := p
  have hx : l[j]? = some (x, y, s) := by rw [List.getElem?_eq_getElem hj, ← hp]
  have hm := h2 _ (List.mem_of_getElem? hx)
  have hv := validB_iff.2 hm.1
  rcases Nat.eq_zero_or_pos j with rfl | h0
  · exact okC_first hx hv hm.2
  · have hj1 : j - 1 < l.length := by omega
    obtain ⟨q, hq⟩ : ∃ q, q = l[j - 1] := ⟨_, rfl⟩
    obtain ⟨a, b, c⟩ := q
    have hy : l[j - 1]? = some (a, b, c) := by rw [List.getElem?_eq_getElem hj1, ← hq]
    rw [okC_next h0 hx hy hv hm.2]
    have := (List.pairwise_iff_getElem.1 h3) (j - 1) j (by omega) hj (by omega)
    rw [← hp, ← hq] at this
    exact this
/-- The state at a position. -/
def getC : List (Int × Int × Int) → Int → Int → Int
  | [], _, _ => 0
  | c :: l, x, y => if c.1 = x ∧ c.2.1 = y then c.2.2 else getC l x y
theorem getC_found : ∀ {l : List (Int × Int × Int)} {j : Nat} {x y s : Int}, (∀ r a b c, r < j → l[r]? = some (a, b, c) → ¬(a = x ∧ b = y)) → l[j]? = some (x, y, s) → getC l x y = s
  | [], j, x, y, s, _, h => by simp at h
  | c :: l, 0, x, y, s, _, h => by
    have e : c = (x, y, s) := by simpa using h
    subst e; simp [getC]
  | c :: l, j + 1, x, y, s, hn, h => by
    have h0 := hn 0 c.1 c.2.1 c.2.2 (by omega) rfl
    unfold getC
    rw [if_neg h0]
    exact getC_found (fun r a b d hr hx => hn (r + 1) a b d (Nat.succ_lt_succ hr) (by simpa using hx)) (by simpa using h)
theorem getC_none : ∀ {l : List (Int × Int × Int)} {x y : Int}, (∀ (r : Nat) a b c, l[r]? = some (a, b, c) → ¬(a = x ∧ b = y)) → getC l x y = 0
  | [], _, _, _ => rfl
  | c :: l, x, y, h => by
    unfold getC
    rw [if_neg (h 0 c.1 c.2.1 c.2.2 rfl)]
    exact getC_none fun r a b d hx => h (r + 1) a b d (by simpa using hx)
def topC (l : List (Int × Int × Int)) : Int := l.foldl (fun m p => max m p.2.2) 0
theorem topC_step {l : List (Int × Int × Int)} {j : Nat} {x y s : Int} (h : l[j]? = some (x, y, s)) : topC (l.take (j + 1)) = max (topC (l.take j)) s := by
  unfold topC; rw [List.take_add_one, List.foldl_append, h]; rfl
/-- The order of patterns. -/
def cmpC (a b : Int × Int × Int) : Int := orI (cmpO a b) (cmpI a.2.2 b.2.2)
def cmpL : List (Int × Int × Int) → List (Int × Int × Int) → Int
  | [], [] => 0
  | [], _ :: _ => -1
  | _ :: _, [] => 1
  | a :: l, b :: r => if a = b then cmpL l r else cmpC a b
theorem cmpC_self (a : Int × Int × Int) : cmpC a a = 0 := by unfold cmpC cmpO cmpP orI cmpI; simp
theorem cmpC_zero {a b : Int × Int × Int} (h : cmpC a b = 0) : a = b := by
  obtain ⟨a1, a2, a3⟩ := a
  obtain ⟨b1, b2, b3⟩ := b
  unfold cmpC cmpO cmpP orI cmpI at h
  simp only [Prod.mk.injEq]
  simp only at h
  split at h <;> (repeat' split at h) <;> omega
theorem cmpL_skip : ∀ {l r : List (Int × Int × Int)} {j : Nat}, j ≤ l.length → j ≤ r.length → (∀ i, i < j → l[i]? = r[i]?) → cmpL l r = cmpL (l.drop j) (r.drop j)
  | l, r, 0, _, _, _ => rfl
  | [], r, j + 1, h, _, _ => by simp at h
  | a :: l, [], j + 1, _, h, _ => by simp at h
  | a :: l, b :: r, j + 1, h1, h2, h => by
    have e : a = b := by have := h 0 (by omega); simpa using this
    subst e
    show (if a = a then cmpL l r else cmpC a a) = cmpL (l.drop j) (r.drop j)
    rw [if_pos rfl]
    exact cmpL_skip (by simpa using h1) (by simpa using h2) fun i hi => by have := h (i + 1) (by omega); simpa using this
theorem cmpL_at {l r : List (Int × Int × Int)} {j : Nat} {a b : Int × Int × Int} (h : ∀ i, i < j → l[i]? = r[i]?) (ha : l[j]? = some a) (hb : r[j]? = some b) (hne : a ≠ b) : cmpL l r = cmpC a b := by
  have h1 := (List.getElem?_eq_some_iff.1 ha).1
  have h2 := (List.getElem?_eq_some_iff.1 hb).1
  rw [cmpL_skip (by omega) (by omega) h, List.drop_eq_getElem_cons h1, List.drop_eq_getElem_cons h2]
  unfold cmpL
  rw [(List.getElem?_eq_some_iff.1 ha).2, (List.getElem?_eq_some_iff.1 hb).2, if_neg hne]
theorem cmpL_end {l r : List (Int × Int × Int)} {n m j : Nat} (hl : l.length = n) (hr : r.length = m) (hj : j ≤ n) (hk : j ≤ m) (h : ∀ i, i < j → l[i]? = r[i]?) (he : j = n ∨ j = m) : cmpL l r = cmpI n m := by
  rw [cmpL_skip (by omega) (by omega) h]
  unfold cmpI
  rcases he with rfl | rfl
  · rw [List.drop_of_length_le (by omega)]
    by_cases e : j = m
    · rw [List.drop_of_length_le (by omega), if_neg (by omega), if_neg (by omega)]; rfl
    · rw [List.drop_eq_getElem_cons (by omega), if_pos (by omega)]; rfl
  · rw [List.drop_of_length_le (by omega : r.length ≤ j)]
    by_cases e : j = n
    · rw [List.drop_of_length_le (by omega), if_neg (by omega), if_neg (by omega)]; rfl
    · rw [List.drop_eq_getElem_cons (by omega), if_neg (by omega), if_pos (by omega)]; rfl
end Go.Proofs.Ytnhnkmppmicjoaa
