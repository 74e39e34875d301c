/- Plain arithmetic of the eight symmetries: no program in sight. Plain facts on lists: membership and equality as the programs test them. Lists of positions: the first index of one. Valid neighbourhoods: plain facts. Plain arithmetic on positions and boxes: no program in sight. Plain facts on boxes: meet, join, grow, around, the positions of a box. No program in sight. Plain facts on sorted lists over a strict total order: insertion, the one sorted list, dropping repeats. No program in sight. Plain facts on patterns: lists of cells. No program in sight. Plain facts on building patterns out of cells in any order. No program in sight. Plain facts on setting the state at a position. No program in sight. Plain facts: the pattern with another state at a position, out of what a search says. No program in sight. Plain laws on patterns: moving back, states after setting and building, the order. No program in sight. Plain facts on merging patterns. No program in sight. Plain facts on connected parts of a list of cells. No program in sight. Plain facts on the reference's way to connected parts: numbers that sink until nothing changes. No program in sight. Plain facts on the program's way to connected parts: a flood over what is left. No program in sight. Plain facts on joining patterns: sets of indices that are linked; a forest of numbers; the list that results. No program in sight. Plain facts on boxes: positions of Meet and of Join; Grow there and back; the box around a box's positions. More plain facts on joining patterns: positions, each once; sets' patterns. No program in sight. Plain facts on the reference's way to join patterns. No program in sight. Plain facts on the algebra of patterns: what its functions and their references compute, and its laws. No program in sight. -/
import Derived.WalkKit
import Derived.Laws.BitsLemmas
set_option linter.unusedSimpArgs false
set_option linter.unusedVariables false
section
namespace Go.Proofs.Ytenckggfgbkfnaa
open Go Go.RowKit

theorem i64_and7 (n : Int) : bits .and .i64 n 7 = n % 8 := by
  have h7 : (BitVec.ofInt 64 7).toNat = 2 ^ 3 - 1 := by decide
  have key : (BitVec.ofInt 64 n &&& BitVec.ofInt 64 7).toNat = (n % ((2 ^ 64 : Nat) : Int)).toNat % 2 ^ 3 := by
    rw [BitVec.toNat_and, BitVec.toNat_ofInt, h7, Nat.and_two_pow_sub_one_eq_mod]
  show IntKind.i64.wrap ((BitVec.ofInt 64 n &&& BitVec.ofInt 64 7).toNat : Nat) = n % 8
  rw [key, IntKind.wrap_i64]
  omega

/-- The first number below n at which p holds; -1 if there is none. -/
def firstAt (p : Nat → Bool) : Nat → Int
  | 0 => -1
  | n + 1 => match firstAt p n with
    | -1 => if p n then n else -1
    | r => r
theorem firstAt_none {p : Nat → Bool} : ∀ {n : Nat}, (∀ i, i < n → p i = false) → firstAt p n = -1
  | 0, _ => rfl
  | n + 1, h => by
    have h1 := firstAt_none (p := p) (n := n) (fun i hi => h i (by omega))
    simp [firstAt, h1, h n (by omega)]
theorem firstAt_nonneg {p : Nat → Bool} {i : Nat} (hi : p i = true) (hj : ∀ j, j < i → p j = false) : ∀ {n : Nat}, i < n → firstAt p n = (i : Int)
  | 0, h => absurd h (by omega)
  | n + 1, h => by
    by_cases e : i = n
    · subst e
      have h1 := firstAt_none (p := p) (n := i) hj
      simp [firstAt, h1, hi]
    · have h1 := firstAt_nonneg hi hj (n := n) (by omega)
      simp only [firstAt, h1]
      split
      · rename_i h2; omega
      · rename_i h2; rfl
theorem firstAt_congr {p q : Nat → Bool} : ∀ {n : Nat}, (∀ i, i < n → p i = q i) → firstAt p n = firstAt q n
  | 0, _ => rfl
  | n + 1, h => by
    simp only [firstAt]
    rw [firstAt_congr (p := p) (q := q) (n := n) (fun i hi => h i (by omega)), h n (by omega)]

/-- The program's table of matrices. -/
def mat (r j : Nat) : Int := [1, 0, 0, 1, 0, -1, 1, 0, -1, 0, 0, -1, 0, 1, -1, 0, -1, 0, 0, 1, 0, -1, -1, 0, 1, 0, 0, -1, 0, 1, 1, 0].getD (r * 4 + j) 0
def r8 (k : Int) : Nat := (k % 8).toNat
theorem r8_lt (k : Int) : r8 k < 8 := by unfold r8; omega
theorem r8_cast (k : Int) : ((r8 k : Nat) : Int) = k % 8 := by unfold r8; omega
/-- What Apply computes. -/
def app (k x y : Int) : Int × Int :=
  (wrap64 (wrap64 (mat (r8 k) 0 * x) + wrap64 (mat (r8 k) 1 * y)), wrap64 (wrap64 (mat (r8 k) 2 * x) + wrap64 (mat (r8 k) 3 * y)))
/-- The number of a matrix in the table. -/
def matP (a b c d : Int) (r : Nat) : Bool := decide (mat r 0 = a ∧ mat r 1 = b ∧ mat r 2 = c ∧ mat r 3 = d)
def matIx (a b c d : Int) : Int := firstAt (matP a b c d) 8
theorem first_step {p : Nat → Bool} {j : Nat} (h : ∀ r, r < j → p r = false) (hj : p j = false) : ∀ r, r < j + 1 → p r = false := by
  intro r hr
  by_cases e : r = j
  · rw [e]; exact hj
  · exact h r (by omega)
/-- What Compose computes. -/
def comp (a b : Int) : Int :=
  let x := app b (app a 1 0).1 (app a 1 0).2
  let y := app b (app a 0 1).1 (app a 0 1).2
  matIx x.1 y.1 x.2 y.2
/-- What Inverse computes. -/
def invP (k : Int) (i : Nat) : Bool := decide (comp k i = 0)
def orZero (r : Int) : Int := if r = -1 then 0 else r
def inv (k : Int) : Int := orZero (firstAt (invP k) 8)

/-- What the reference's quarter turn does. -/
def quart : Nat → Int × Int → Int × Int
  | 0, p => p
  | n + 1, p => (wrap64 (-(quart n p).2), (quart n p).1)
/-- What the reference's Apply computes. -/
def rapp (k x y : Int) : Int × Int := if 4 ≤ k % 8 then quart (k % 8 - 4).toNat (wrap64 (-x), y) else quart (k % 8).toNat (x, y)
/-- What the reference's find and Compose compute. -/
def rfindP (x y : Int) (k : Nat) : Bool := decide ((rapp k 1 2).1 = x ∧ (rapp k 1 2).2 = y)
def rfind (x y : Int) : Int := orZero (firstAt (rfindP x y) 8)
def rcomp (a b : Int) : Int := let p := rapp a 1 2; let q := rapp b p.1 p.2; rfind q.1 q.2
def rinvP (k : Int) (i : Nat) : Bool := decide (rcomp k i = 0)
def rinv (k : Int) : Int := orZero (firstAt (rinvP k) 8)
theorem orZero_found {p : Nat → Bool} {i n : Nat} (hi : p i = true) (hj : ∀ j, j < i → p j = false) (h : i < n) : orZero (firstAt p n) = (i : Int) := by
  rw [firstAt_nonneg hi hj h]; unfold orZero; rw [if_neg (by omega)]
theorem orZero_none {p : Nat → Bool} {n : Nat} (h : ∀ i, i < n → p i = false) : orZero (firstAt p n) = 0 := by
  rw [firstAt_none h]; rfl

theorem r8_cases (k : Int) : k % 8 = 0 ∨ k % 8 = 1 ∨ k % 8 = 2 ∨ k % 8 = 3 ∨ k % 8 = 4 ∨ k % 8 = 5 ∨ k % 8 = 6 ∨ k % 8 = 7 := by omega
def I64 (n : Int) : Prop := -9223372036854775808 ≤ n ∧ n ≤ 9223372036854775807
theorem app_mod (k x y : Int) : app k x y = app (k % 8) x y := by unfold app r8; rw [Int.emod_emod_of_dvd _ (by decide)]
theorem rapp_mod (k x y : Int) : rapp k x y = rapp (k % 8) x y := by unfold rapp; rw [Int.emod_emod_of_dvd _ (by decide)]
/-- Both applications agree. -/
theorem app_eq (k x y : Int) (hx : I64 x) (hy : I64 y) : app k x y = rapp k x y := by
  rw [app_mod, rapp_mod]
  unfold I64 at hx hy
  rcases r8_cases k with h | h | h | h | h | h | h | h <;> rw [h] <;>
    simp [app, rapp, r8, mat, quart, wrap64] <;> omega
end Go.Proofs.Ytenckggfgbkfnaa
end
section
namespace Go.Proofs.Ytenckggfgbkfnaa
open Go Go.RowKit
def hasI (l : List Int) (m : Int) : Bool := l.contains m
theorem contains_step {l : List Int} {i : Nat} {x m : Int} (h : ∀ j, j < i → l[j]? ≠ some m) (hx : l[i]? = some x) (hne : x ≠ m) : ∀ j, j < i + 1 → l[j]? ≠ some m := by
  intro j hj
  by_cases e : j = i
  · rw [e, hx]; intro h'; exact hne (Option.some.inj h')
  · exact h j (by omega)
theorem contains_none {l : List Int} {n : Nat} {m : Int} (hl : l.length = n) (h : ∀ j, j < n → l[j]? ≠ some m) : hasI l m = false := by
  unfold hasI
  rw [Bool.eq_false_iff]
  intro hc
  have hm : m ∈ l := by simpa using hc
  obtain ⟨i, hi, e⟩ := List.getElem_of_mem hm
  exact h i (by omega) (by rw [List.getElem?_eq_getElem hi, e])
theorem contains_some {l : List Int} {i : Nat} {m : Int} (hx : l[i]? = some m) : hasI l m = true := by
  unfold hasI
  have : m ∈ l := List.mem_of_getElem? hx
  simpa using this
def sameL {α : Type} [DecidableEq α] (a b : List α) : Bool := decide (a = b)
theorem sameL_len {α : Type} [DecidableEq α] {a b : List α} {n m : Nat} (ha : a.length = n) (hb : b.length = m) (h : n ≠ m) : sameL a b = false :=
  decide_eq_false fun e => h (by rw [← ha, ← hb, e])
theorem sameL_ne {α : Type} [DecidableEq α] {a b : List α} {j : Nat} {x y : α} (hx : a[j]? = some x) (hy : b[j]? = some y) (h : x ≠ y) : sameL a b = false :=
  decide_eq_false fun e => h (by rw [e, hy] at hx; exact (Option.some.inj hx).symm)
theorem sameL_all {α : Type} [DecidableEq α] {a b : List α} {n : Nat} (ha : a.length = n) (hb : b.length = n) (h : ∀ i, i < n → a[i]? = b[i]?) : sameL a b = true :=
  decide_eq_true (List.ext_getElem? fun i => by
    by_cases hi : i < n
    · exact h i hi
    · rw [List.getElem?_eq_none (by omega), List.getElem?_eq_none (by omega)])
theorem same_step {α : Type} {a b : List α} {j : Nat} (h : ∀ i, i < j → a[i]? = b[i]?) (hj : a[j]? = b[j]?) : ∀ i, i < j + 1 → a[i]? = b[i]? := by
  intro i hi
  by_cases e : i = j
  · rw [e]; exact hj
  · exact h i (by omega)
theorem hasI_iff {l : List Int} {m : Int} : hasI l m = true ↔ m ∈ l := by unfold hasI; simp
theorem hasI_no {l : List Int} {m : Int} (h : hasI l m = false) : m ∉ l := fun hm => by rw [hasI_iff.2 hm] at h; cases h
/-- A list without repetition of numbers below n has at most n of them. -/
theorem nodup_len : ∀ (n : Nat) (L : List Int), L.Nodup → (∀ x, x ∈ L → ∃ k : Nat, x = (k : Int) ∧ k < n) → L.length ≤ n
  | 0, L, _, h => by
    cases L with
    | nil => simp
    | cons y L => obtain ⟨k, _, hk⟩ := h y (by simp); omega
  | n + 1, L, hd, h => by
    have h1 := nodup_len n (L.erase (n : Int)) (hd.erase _) fun x hx => by
      rw [hd.mem_erase_iff] at hx
      obtain ⟨k, rfl, hk⟩ := h x hx.2
      exact ⟨k, rfl, by omega⟩
    have h2 := List.length_erase (a := (n : Int)) (l := L)
    split at h2 <;> omega
end Go.Proofs.Ytenckggfgbkfnaa
end
section
namespace Go.Proofs.Ytenckggfgbkfnaa
open Go Go.RowKit
def isAt (l : List (Int × Int)) (x y : Int) (i : Nat) : Bool := decide (l[i]? = some (x, y))
/-- The first index of a position; -1 if there is none. -/
def idxP (l : List (Int × Int)) (x y : Int) : Int := firstAt (isAt l x y) l.length
def hasP (l : List (Int × Int)) (x y : Int) : Bool := decide (0 ≤ idxP l x y)
theorem isAt_no {l : List (Int × Int)} {x y a b : Int} {i : Nat} (h : l[i]? = some (a, b)) (hne : ¬a = x ∨ ¬b = y) : isAt l x y i = false := by
  unfold isAt; rw [h]; simp; intro h1; rcases hne with h2 | h2
  · exact absurd h1 h2
  · exact h2
theorem isAt_yes {l : List (Int × Int)} {x y : Int} {i : Nat} (h : l[i]? = some (x, y)) : isAt l x y i = true := by
  unfold isAt; rw [h]; simp
theorem idxP_found {l : List (Int × Int)} {n : Nat} {x y : Int} {i : Nat} (hl : l.length = n) (hi : i < n) (h : l[i]? = some (x, y)) (hno : ∀ r, r < i → isAt l x y r = false) : (i : Int) = idxP l x y := by
  unfold idxP; rw [hl]; exact (firstAt_nonneg (isAt_yes h) hno hi).symm
theorem idxP_none {l : List (Int × Int)} {n : Nat} {x y : Int} (hl : l.length = n) (hno : ∀ r, r < n → isAt l x y r = false) : (-1 : Int) = idxP l x y := by
  unfold idxP; rw [hl]; exact (firstAt_none hno).symm
end Go.Proofs.Ytenckggfgbkfnaa
end
section
namespace Go.Proofs.Ytenckggfgbkfnaa
open Go Go.RowKit
def cmpI (a b : Int) : Int := if a < b then -1 else if b < a then 1 else 0
def orI (a b : Int) : Int := if a = 0 then b else a
def cmpP (ax ay bx bx' : Int) : Int := orI (cmpI ay bx') (cmpI ax bx)
def befP (ax ay bx bx' : Int) : Bool := decide (ay < bx' ∨ ay = bx' ∧ ax < bx)
theorem cmpP_bef (ax ay bx bx' : Int) : decide (0 ≤ cmpP ax ay bx bx') = !befP ax ay bx bx' := by
  unfold cmpP befP orI cmpI
  rw [Bool.eq_iff_iff]
  simp only [decide_eq_true_eq, Bool.not_eq_true', decide_eq_false_iff_not]
  repeat' split
  all_goals omega
def inR (n : Int) : Bool := decide (-2 ≤ n ∧ n ≤ 2)
/-- The element i is in range and behind the one ahead of it. -/
def okAt (l : List (Int × Int)) (i : Nat) : Bool := match l[i]? with
  | none => true
  | some p => inR p.1 && inR p.2 && (i == 0 || (match l[i - 1]? with | none => true | some q => befP q.1 q.2 p.1 p.2))
def rightL (l : List (Int × Int)) : Bool := decide (1 ≤ l.length ∧ l.length ≤ 25) && (List.range l.length).all (okAt l)
theorem rightL_len {l : List (Int × Int)} {n : Nat} (hl : l.length = n) (h : n < 1 ∨ 25 < n) : rightL l = false := by
  unfold rightL; rw [hl, decide_eq_false (by omega)]; rfl
theorem rightL_bad {l : List (Int × Int)} {n j : Nat} (hl : l.length = n) (hj : j < n) (h : okAt l j = false) : rightL l = false := by
  unfold rightL
  rw [hl, Bool.and_eq_false_iff]
  right
  rw [List.all_eq_false]
  exact ⟨j, by simpa using hj, by simp [h]⟩
theorem rightL_all {l : List (Int × Int)} {n : Nat} (hl : l.length = n) (h1 : 1 ≤ n) (h2 : n ≤ 25) (h : ∀ j, j < n → okAt l j = true) : rightL l = true := by
  unfold rightL
  rw [hl, decide_eq_true (by omega), Bool.true_and, List.all_eq_true]
  intro j hj
  exact h j (by simpa using hj)
theorem ok_step {l : List (Int × Int)} {j : Nat} (h : ∀ r, r < j → okAt l r = true) (hj : okAt l j = true) : ∀ r, r < j + 1 → okAt l r = true := by
  intro r hr
  by_cases e : r = j
  · rw [e]; exact hj
  · exact h r (by omega)
theorem okAt_out {l : List (Int × Int)} {j : Nat} {x y : Int} (hx : l[j]? = some (x, y)) (h : x < -2 ∨ 2 < x ∨ y < -2 ∨ 2 < y) : okAt l j = false := by
  unfold okAt
  rw [hx]
  have : (inR x && inR y) = false := by unfold inR; rw [Bool.eq_false_iff]; simp only [ne_eq, Bool.and_eq_true, decide_eq_true_eq]; omega
  simp only [this, Bool.false_and]
theorem okAt_first {l : List (Int × Int)} {x y : Int} (hx : l[0]? = some (x, y)) (h : -2 ≤ x ∧ x ≤ 2 ∧ -2 ≤ y ∧ y ≤ 2) : okAt l 0 = true := by
  unfold okAt
  rw [hx]
  have : (inR x && inR y) = true := by unfold inR; simp only [Bool.and_eq_true, decide_eq_true_eq]; omega
  simp only [this]; rfl
theorem okAt_next {l : List (Int × Int)} {j : Nat} {x y a b : Int} (hj : 0 < j) (hx : l[j]? = some (x, y)) (hp : l[j - 1]? = some (a, b)) (h : -2 ≤ x ∧ x ≤ 2 ∧ -2 ≤ y ∧ y ≤ 2) : okAt l j = befP a b x y := by
  unfold okAt
  rw [hx, hp]
  have h1 : (inR x && inR y) = true := by unfold inR; simp only [Bool.and_eq_true, decide_eq_true_eq]; omega
  have h2 : (j == 0) = false := by simp; omega
  simp only [h1, h2]; rfl
end Go.Proofs.Ytenckggfgbkfnaa
end
section
namespace Go.Proofs.Ytenckggfgbkfnaa
open Go Go.RowKit
def inB (n : Int) : Bool := decide (-1048576 ≤ n ∧ n ≤ 1048576)
def rightB (x y w h : Int) : Bool := decide (1 ≤ w ∧ w ≤ 2097153 ∧ 1 ≤ h ∧ h ≤ 2097153 ∧ -1048576 ≤ x ∧ x ≤ 1048576 ∧ -1048576 ≤ y ∧ y ≤ 1048576 ∧ x + w - 1 ≤ 1048576 ∧ y + h - 1 ≤ 1048576)
theorem rightB_iff {x y w h : Int} : rightB x y w h = true ↔ (1 ≤ w ∧ w ≤ 2097153 ∧ 1 ≤ h ∧ h ≤ 2097153 ∧ -1048576 ≤ x ∧ x ≤ 1048576 ∧ -1048576 ≤ y ∧ y ≤ 1048576 ∧ x + w - 1 ≤ 1048576 ∧ y + h - 1 ≤ 1048576) := by
  unfold rightB; exact decide_eq_true_iff
theorem rightB_no {x y w h : Int} (hn : ¬ (1 ≤ w ∧ w ≤ 2097153 ∧ 1 ≤ h ∧ h ≤ 2097153 ∧ -1048576 ≤ x ∧ x ≤ 1048576 ∧ -1048576 ≤ y ∧ y ≤ 1048576 ∧ x + w - 1 ≤ 1048576 ∧ y + h - 1 ≤ 1048576)) : rightB x y w h = false := by
  unfold rightB; exact decide_eq_false hn
def validB (x y : Int) : Bool := decide (-1048576 ≤ x ∧ x ≤ 1048576 ∧ -1048576 ≤ y ∧ y ≤ 1048576)
def boxInB (x y w h px py : Int) : Bool := rightB x y w h && decide (x ≤ px ∧ px < x + w ∧ y ≤ py ∧ py < y + h)
end Go.Proofs.Ytenckggfgbkfnaa
end
section
namespace Go.Proofs.Ytenckggfgbkfnaa
open Go Go.RowKit
def Pt (x y : Int) : Prop := -1048576 ≤ x ∧ x ≤ 1048576 ∧ -1048576 ≤ y ∧ y ≤ 1048576
/-- Both boxes are valid and have a common position. -/
def meetOk (ax ay aw ah bx by' bw bh : Int) : Bool := rightB ax ay aw ah && rightB bx by' bw bh && decide (max ax bx < min (ax + aw) (bx + bw)) && decide (max ay by' < min (ay + ah) (by' + bh))
def ifB (q : Bool) (n : Int) : Int := if q = true then n else 0
def meetX (ax ay aw ah bx by' bw bh : Int) : Int := ifB (meetOk ax ay aw ah bx by' bw bh) (max ax bx)
def meetY (ax ay aw ah bx by' bw bh : Int) : Int := ifB (meetOk ax ay aw ah bx by' bw bh) (max ay by')
def meetW (ax ay aw ah bx by' bw bh : Int) : Int := ifB (meetOk ax ay aw ah bx by' bw bh) (min (ax + aw) (bx + bw) - max ax bx)
def meetH (ax ay aw ah bx by' bw bh : Int) : Int := ifB (meetOk ax ay aw ah bx by' bw bh) (min (ay + ah) (by' + bh) - max ay by')
theorem meetOk_iff {ax ay aw ah bx by' bw bh : Int} : meetOk ax ay aw ah bx by' bw bh = true ↔ rightB ax ay aw ah = true ∧ rightB bx by' bw bh = true ∧ max ax bx < min (ax + aw) (bx + bw) ∧ max ay by' < min (ay + ah) (by' + bh) := by
  unfold meetOk; simp only [Bool.and_eq_true, decide_eq_true_eq]; exact ⟨fun ⟨⟨⟨a, b⟩, c⟩, d⟩ => ⟨a, b, c, d⟩, fun ⟨a, b, c, d⟩ => ⟨⟨⟨a, b⟩, c⟩, d⟩⟩
/-- Join. -/
def joinV (qa qb : Bool) (a b c : Int) : Int := match qa, qb with
  | true, true => c
  | true, false => a
  | false, true => b
  | false, false => 0
def joinX (ax ay aw ah bx by' bw bh : Int) : Int := joinV (rightB ax ay aw ah) (rightB bx by' bw bh) ax bx (min ax bx)
def joinY (ax ay aw ah bx by' bw bh : Int) : Int := joinV (rightB ax ay aw ah) (rightB bx by' bw bh) ay by' (min ay by')
def joinW (ax ay aw ah bx by' bw bh : Int) : Int := joinV (rightB ax ay aw ah) (rightB bx by' bw bh) aw bw (max (ax + aw) (bx + bw) - min ax bx)
def joinH (ax ay aw ah bx by' bw bh : Int) : Int := joinV (rightB ax ay aw ah) (rightB bx by' bw bh) ah bh (max (ay + ah) (by' + bh) - min ay by')
/-- Grow. -/
def clampK (k : Int) : Int := max (-4194304) (min 4194304 k)
def growE (x y w h k : Int) : Int :=
  if rightB x y w h = true then
    if w + 2 * clampK k < 1 ∨ h + 2 * clampK k < 1 then 6
    else if rightB (x - clampK k) (y - clampK k) (w + 2 * clampK k) (h + 2 * clampK k) = true then 0 else 5
  else 2
def growOk (x y w h k : Int) : Bool := growE x y w h k == 0
def growX (x y w h k : Int) : Int := ifB (growOk x y w h k) (x - clampK k)
def growY (x y w h k : Int) : Int := ifB (growOk x y w h k) (y - clampK k)
def growW (x y w h k : Int) : Int := ifB (growOk x y w h k) (w + 2 * clampK k)
def growH (x y w h k : Int) : Int := ifB (growOk x y w h k) (h + 2 * clampK k)
/-- With a wider clamp the same comes out. -/
theorem grow_wide {x y w h k c : Int} (hr : rightB x y w h = true) (hc : c = max (-4194308) (min 4194308 k)) :
    (c = clampK k) ∨ (0 < c ∧ ¬(w + 2 * c < 1 ∨ h + 2 * c < 1) ∧ rightB (x - c) (y - c) (w + 2 * c) (h + 2 * c) = false ∧ growE x y w h k = 5) ∨ (c < 0 ∧ (w + 2 * c < 1) ∧ growE x y w h k = 6) := by
  have h1 := rightB_iff.1 hr
  by_cases h2 : k < -4194304
  · right; right
    refine ⟨by omega, by omega, ?_⟩
    unfold growE
    rw [if_pos hr, if_pos (by unfold clampK; omega)]
  · by_cases h3 : 4194304 < k
    · right; left
      refine ⟨by omega, by omega, rightB_no (by omega), ?_⟩
      unfold growE
      rw [if_pos hr, if_neg (by unfold clampK; omega), if_neg]
      rw [rightB_iff]; unfold clampK; omega
    · left; unfold clampK; omega
/-- The positions of a box, in order. -/
def ptAt (x y w : Int) (i : Nat) : Int × Int := (x + (i : Int) % w, y + (i : Int) / w)
def ptsAt (x y w : Int) (n : Nat) : List (Int × Int) := (List.range n).map (ptAt x y w)
def ptsOk (x y w h : Int) : Bool := rightB x y w h && decide (w * h ≤ 5000)
def ptsL (x y w h : Int) : List (Int × Int) := if ptsOk x y w h = true then ptsAt x y w (w * h).toNat else []
theorem ptsAt_succ (x y w : Int) (n : Nat) : ptsAt x y w (n + 1) = ptsAt x y w n ++ [ptAt x y w n] := by
  unfold ptsAt; rw [List.range_succ, List.map_append]; rfl
theorem ptsAt_len (x y w : Int) (n : Nat) : (ptsAt x y w n).length = n := by unfold ptsAt; simp
theorem ptAt_row {x y : Int} {w k i : Nat} (hi : i < w) : ptAt x y w (k * w + i) = (x + i, y + k) := by
  unfold ptAt
  have e1 : (k * w + i) % w = i := by rw [Nat.mul_comm, Nat.mul_add_mod]; exact Nat.mod_eq_of_lt hi
  have e2 : (k * w + i) / w = k := by rw [Nat.mul_comm, Nat.mul_add_div (by omega), Nat.div_eq_of_lt hi, Nat.add_zero]
  rw [← Int.natCast_emod, ← Int.natCast_ediv, e1, e2]
/-- Around. -/
def okP (p : Int × Int) : Bool := validB p.1 p.2
def arOk (l : List (Int × Int)) : Bool := !l.isEmpty && l.all okP
def loX (l : List (Int × Int)) (d : Int) : Int := l.foldl (fun m p => min m p.1) d
def loY (l : List (Int × Int)) (d : Int) : Int := l.foldl (fun m p => min m p.2) d
def hiX (l : List (Int × Int)) (d : Int) : Int := l.foldl (fun m p => max m p.1) d
def hiY (l : List (Int × Int)) (d : Int) : Int := l.foldl (fun m p => max m p.2) d
def fstX (l : List (Int × Int)) : Int := match l with | [] => 0 | p :: _ => p.1
def fstY (l : List (Int × Int)) : Int := match l with | [] => 0 | p :: _ => p.2
def arX (l : List (Int × Int)) : Int := ifB (arOk l) (loX l (fstX l))
def arY (l : List (Int × Int)) : Int := ifB (arOk l) (loY l (fstY l))
def arW (l : List (Int × Int)) : Int := ifB (arOk l) (hiX l (fstX l) - loX l (fstX l) + 1)
def arH (l : List (Int × Int)) : Int := ifB (arOk l) (hiY l (fstY l) - loY l (fstY l) + 1)
section
variable {l : List (Int × Int)} {j : Nat} {x y d : Int}
theorem loX_step (h : l[j]? = some (x, y)) : loX (l.take (j + 1)) d = min (loX (l.take j) d) x := by
  unfold loX; rw [List.take_add_one, List.foldl_append, h]; rfl
theorem loY_step (h : l[j]? = some (x, y)) : loY (l.take (j + 1)) d = min (loY (l.take j) d) y := by
  unfold loY; rw [List.take_add_one, List.foldl_append, h]; rfl
theorem hiX_step (h : l[j]? = some (x, y)) : hiX (l.take (j + 1)) d = max (hiX (l.take j) d) x := by
  unfold hiX; rw [List.take_add_one, List.foldl_append, h]; rfl
theorem hiY_step (h : l[j]? = some (x, y)) : hiY (l.take (j + 1)) d = max (hiY (l.take j) d) y := by
  unfold hiY; rw [List.take_add_one, List.foldl_append, h]; rfl
end
theorem fst_of {l : List (Int × Int)} {x y : Int} (h : l[0]? = some (x, y)) : fstX l = x ∧ fstY l = y := by
  cases l with
  | nil => simp at h
  | cons p l => simp at h; subst h; exact ⟨rfl, rfl⟩
theorem arOk_nil : arOk [] = false := rfl
theorem arOk_bad {l : List (Int × Int)} {j : Nat} {x y : Int} (h : l[j]? = some (x, y)) (hv : validB x y = false) : arOk l = false := by
  unfold arOk
  rw [Bool.and_eq_false_iff]
  right
  rw [List.all_eq_false]
  exact ⟨(x, y), List.mem_of_getElem? h, by unfold okP; simp [hv]⟩
theorem arOk_all {l : List (Int × Int)} {n : Nat} (hl : l.length = n) (h0 : 0 < n) (h : ∀ j x y, j < n → l[j]? = some (x, y) → validB x y = true) : arOk l = true := by
  unfold arOk
  rw [Bool.and_eq_true, List.all_eq_true]
  refine ⟨by (cases l with | nil => (simp at hl; omega) | cons _ _ => rfl), fun p hp => ?_⟩
  obtain ⟨i, hi, e⟩ := List.getElem_of_mem hp
  exact h i p.1 p.2 (by omega) (by rw [List.getElem?_eq_getElem hi, e])
/-- The least and greatest coordinates of valid positions are valid. -/
theorem lo_bound : ∀ (l : List (Int × Int)) (d : Int), (∀ p, p ∈ l → Pt p.1 p.2) → (-1048576 ≤ d ∧ d ≤ 1048576) →
    (-1048576 ≤ loX l d ∧ loX l d ≤ 1048576) ∧ (-1048576 ≤ loY l d ∧ loY l d ≤ 1048576) ∧ (-1048576 ≤ hiX l d ∧ hiX l d ≤ 1048576) ∧ (-1048576 ≤ hiY l d ∧ hiY l d ≤ 1048576)
  | [], d, _, h => ⟨h, h, h, h⟩
  | p :: l, d, hp, h => by
    have hpp := hp p (by simp)
    unfold Pt at hpp
    have h1 := lo_bound l (min d p.1) (fun q hq => hp q (by simp [hq])) (by omega)
    have h2 := lo_bound l (min d p.2) (fun q hq => hp q (by simp [hq])) (by omega)
    have h3 := lo_bound l (max d p.1) (fun q hq => hp q (by simp [hq])) (by omega)
    have h4 := lo_bound l (max d p.2) (fun q hq => hp q (by simp [hq])) (by omega)
    exact ⟨h1.1, h2.2.1, h3.2.2.1, h4.2.2.2⟩
theorem validB_iff {x y : Int} : validB x y = true ↔ Pt x y := by unfold validB Pt; simp
end Go.Proofs.Ytenckggfgbkfnaa
end
section
namespace Go.Proofs.Ytenckggfgbkfnaa
open Go Go.RowKit
/-- A strict order, total. -/
structure Lin {α : Type} (lt : α → α → Bool) : Prop where
  irr : ∀ a, lt a a = false
  tr : ∀ a b c, lt a b = true → lt b c = true → lt a c = true
  tot : ∀ a b, lt a b = true ∨ a = b ∨ lt b a = true
section
variable {α : Type} {lt : α → α → Bool}
theorem Lin.asym (h : Lin lt) {a b : α} (h1 : lt a b = true) : lt b a = false := by
  cases h2 : lt b a with
  | false => rfl
  | true => have := h.tr _ _ _ h1 h2; rw [h.irr] at this; cases this
/-- Each element is less than all behind it. -/
def SS (lt : α → α → Bool) (l : List α) : Prop := l.Pairwise fun a b => lt a b = true
/-- No element is less than one ahead of it. -/
def SW (lt : α → α → Bool) (l : List α) : Prop := l.Pairwise fun a b => lt b a = false
variable [DecidableEq α]
/-- A sorted list with one element more, each once. -/
def insL (lt : α → α → Bool) : List α → α → List α
  | [], p => [p]
  | q :: l, p => if lt q p = true then q :: insL lt l p else if q = p then q :: l else p :: q :: l
def sortL (lt : α → α → Bool) (l : List α) : List α := l.foldl (insL lt) []
/-- Of neighbours that are equal one is kept. -/
def compL : List α → List α
  | [] => []
  | [a] => [a]
  | a :: b :: l => if a = b then compL (b :: l) else a :: compL (b :: l)
theorem mem_insL (h : Lin lt) : ∀ (l : List α) (p x : α), x ∈ insL lt l p ↔ x = p ∨ x ∈ l
  | [], p, x => by simp [insL]
  | q :: l, p, x => by
    unfold insL
    split
    · rw [List.mem_cons, mem_insL h l p x, List.mem_cons]
      constructor
      · rintro (a | a | a)
        · exact .inr (.inl a)
        · exact .inl a
        · exact .inr (.inr a)
      · rintro (a | a | a)
        · exact .inr (.inl a)
        · exact .inl a
        · exact .inr (.inr a)
    · split
      · rename_i e; subst e
        simp
      · simp
theorem ss_insL (h : Lin lt) : ∀ (l : List α) (p : α), SS lt l → SS lt (insL lt l p)
  | [], p, _ => by simp [insL, SS]
  | q :: l, p, hs => by
    unfold SS at hs
    obtain ⟨h1, h2⟩ := List.pairwise_cons.1 hs
    unfold insL
    split
    · rename_i hq
      refine List.pairwise_cons.2 ⟨fun x hx => ?_, ss_insL h l p h2⟩
      rcases (mem_insL h l p x).1 hx with rfl | hm
      · exact hq
      · exact h1 x hm
    · split
      · exact hs
      · rename_i hq he
        refine List.pairwise_cons.2 ⟨fun x hx => ?_, hs⟩
        have hpq : lt p q = true := by
          rcases h.tot q p with a | a | a
          · exact absurd a hq
          · exact absurd a he
          · exact a
        rcases List.mem_cons.1 hx with rfl | hm
        · exact hpq
        · exact h.tr _ _ _ hpq (h1 x hm)
theorem sortL_aux (h : Lin lt) : ∀ (l out : List α), SS lt out → SS lt (l.foldl (insL lt) out) ∧ ∀ x, x ∈ l.foldl (insL lt) out ↔ x ∈ l ∨ x ∈ out
  | [], out, hs => ⟨hs, fun x => by simp⟩
  | p :: l, out, hs => by
    obtain ⟨h1, h2⟩ := sortL_aux h l (insL lt out p) (ss_insL h out p hs)
    refine ⟨h1, fun x => ?_⟩
    rw [List.foldl_cons, h2, mem_insL h, List.mem_cons]
    constructor
    · rintro (a | a | a)
      · exact .inl (.inr a)
      · exact .inl (.inl a)
      · exact .inr a
    · rintro ((a | a) | a)
      · exact .inr (.inl a)
      · exact .inl a
      · exact .inr (.inr a)
theorem ss_sortL (h : Lin lt) (l : List α) : SS lt (sortL lt l) := (sortL_aux h l [] List.Pairwise.nil).1
theorem mem_sortL (h : Lin lt) (l : List α) (x : α) : x ∈ sortL lt l ↔ x ∈ l := by
  have := (sortL_aux h l [] List.Pairwise.nil).2 x
  simpa [sortL] using this
omit [DecidableEq α] in
/-- There is one sorted list of given elements. -/
theorem ss_unique (h : Lin lt) : ∀ (a b : List α), SS lt a → SS lt b → (∀ x, x ∈ a ↔ x ∈ b) → a = b
  | [], [], _, _, _ => rfl
  | [], y :: b, _, _, he => absurd ((he y).2 (by simp)) (by simp)
  | x :: a, [], _, _, he => absurd ((he x).1 (by simp)) (by simp)
  | x :: a, y :: b, ha, hb, he => by
    obtain ⟨h1, h2⟩ := List.pairwise_cons.1 ha
    obtain ⟨h3, h4⟩ := List.pairwise_cons.1 hb
    have hxy : x = y := by
      rcases List.mem_cons.1 ((he x).1 (by simp)) with e | hm
      · exact e
      · rcases List.mem_cons.1 ((he y).2 (by simp)) with e | hm2
        · exact e.symm
        · have := h.asym (h3 x hm)
          rw [h1 y hm2] at this; cases this
    subst hxy
    rw [ss_unique h a b h2 h4 fun z => ?_]
    constructor
    · intro hz
      rcases List.mem_cons.1 ((he z).1 (by simp [hz])) with e | hm
      · subst e; have := h1 z hz; rw [h.irr] at this; cases this
      · exact hm
    · intro hz
      rcases List.mem_cons.1 ((he z).2 (by simp [hz])) with e | hm
      · subst e; have := h3 z hz; rw [h.irr] at this; cases this
      · exact hm
theorem mem_compL : ∀ (l : List α) (x : α), x ∈ compL l ↔ x ∈ l
  | [], x => by simp [compL]
  | [a], x => by simp [compL]
  | a :: b :: l, x => by
    unfold compL
    split
    · rename_i e; subst e
      rw [mem_compL (a :: l) x]; simp
    · rw [List.mem_cons, mem_compL (b :: l) x, List.mem_cons (a := x) (b := a)]
theorem ss_compL (h : Lin lt) : ∀ (l : List α), SW lt l → SS lt (compL l)
  | [], _ => by simp [compL, SS]
  | [a], _ => by simp [compL, SS]
  | a :: b :: l, hs => by
    unfold SW at hs
    obtain ⟨h1, h2⟩ := List.pairwise_cons.1 hs
    unfold compL
    split
    · exact ss_compL h (b :: l) h2
    · rename_i he
      refine List.pairwise_cons.2 ⟨fun x hx => ?_, ss_compL h (b :: l) h2⟩
      have hx2 := (mem_compL (b :: l) x).1 hx
      have hab : lt a b = true := by
        rcases h.tot a b with q | q | q
        · exact q
        · exact absurd q he
        · rw [h1 b (by simp)] at q; cases q
      rcases List.mem_cons.1 hx2 with rfl | hm
      · exact hab
      · have hbx := (List.pairwise_cons.1 h2).1 x hm
        rcases h.tot b x with q | q | q
        · exact h.tr _ _ _ hab q
        · subst q; exact hab
        · rw [hbx] at q; cases q
theorem comp_sort (h : Lin lt) {l l' : List α} (hp : ∀ x, x ∈ l' ↔ x ∈ l) (hs : SW lt l') : compL l' = sortL lt l :=
  ss_unique h _ _ (ss_compL h l' hs) (ss_sortL h l) fun x => by rw [mem_compL, mem_sortL h, hp]
theorem sort_sorted (h : Lin lt) {l : List α} (hs : SS lt l) : sortL lt l = l := ss_unique h _ _ (ss_sortL h l) hs fun x => mem_sortL h l x
theorem sortL_len (lt : α → α → Bool) (l : List α) : (sortL lt l).length ≤ l.length := by
  have hins : ∀ (o : List α) (p : α), (insL lt o p).length ≤ o.length + 1 := by
    intro o p
    induction o with
    | nil => simp [insL]
    | cons q o ih => unfold insL; split; · simp; exact ih
                     · split <;> simp
  have : ∀ (l o : List α), (l.foldl (insL lt) o).length ≤ o.length + l.length := by
    intro l
    induction l with
    | nil => intro o; simp
    | cons p l ih => intro o; have h1 := ih (insL lt o p); have h2 := hins o p; simp at h1 ⊢; omega
  have := this l []
  simpa [sortL] using this
/-- What the elements ahead of k give, as the loop builds it: the last one kept is the one at k - 1. -/
theorem compL_snoc (l : List α) (a b : α) : compL (l ++ [a] ++ [b]) = if a = b then compL (l ++ [a]) else compL (l ++ [a]) ++ [b] := by
  induction l with
  | nil => simp only [List.nil_append]; unfold compL; split <;> simp_all [compL]
  | cons x l ih =>
    cases l with
    | nil =>
      simp only [List.nil_append, List.cons_append] at ih ⊢
      show (if x = a then compL [a, b] else x :: compL [a, b]) = _
      rw [ih]
      by_cases h1 : a = b <;> by_cases h2 : x = a <;> simp [h1, h2, compL]
    | cons y l =>
      simp only [List.cons_append] at ih ⊢
      show (if x = y then compL (y :: (l ++ [a] ++ [b])) else x :: compL (y :: (l ++ [a] ++ [b]))) = _
      rw [ih]
      show _ = if a = b then (if x = y then compL (y :: (l ++ [a])) else x :: compL (y :: (l ++ [a]))) else (if x = y then compL (y :: (l ++ [a])) else x :: compL (y :: (l ++ [a]))) ++ [b]
      by_cases h1 : a = b <;> by_cases h2 : x = y <;> simp [h1, h2]
omit [DecidableEq α] in
theorem take_two {l : List α} {k : Nat} {a b : α} (hk : 0 < k) (ha : l[k - 1]? = some a) (hb : l[k]? = some b) : l.take (k + 1) = l.take (k - 1) ++ [a] ++ [b] := by
  obtain ⟨j, rfl⟩ : ∃ j, k = j + 1 := ⟨k - 1, by omega⟩
  rw [List.take_add_one, List.take_add_one, show j + 1 - 1 = j by omega] at *
  rw [show l[j]? = some a from ha, hb]; rfl
theorem compL_eq {l : List α} {k : Nat} {a : α} (hk : 0 < k) (ha : l[k - 1]? = some a) (hb : l[k]? = some a) : compL (l.take (k + 1)) = compL (l.take k) := by
  rw [take_two hk ha hb, compL_snoc, if_pos rfl]
  congr 1
  obtain ⟨j, rfl⟩ : ∃ j, k = j + 1 := ⟨k - 1, by omega⟩
  rw [List.take_add_one, show j + 1 - 1 = j by omega] at *
  rw [show l[j]? = some a from ha]; rfl
theorem compL_ne {l : List α} {k : Nat} {a b : α} (hk : 0 < k) (ha : l[k - 1]? = some a) (hb : l[k]? = some b) (h : a ≠ b) : compL (l.take (k + 1)) = compL (l.take k) ++ [b] := by
  rw [take_two hk ha hb, compL_snoc, if_neg h]
  congr 2
  obtain ⟨j, rfl⟩ : ∃ j, k = j + 1 := ⟨k - 1, by omega⟩
  rw [List.take_add_one, show j + 1 - 1 = j by omega] at *
  rw [show l[j]? = some a from ha]; rfl
theorem compL_len (l : List α) : (compL l).length ≤ l.length := by
  induction l with
  | nil => simp [compL]
  | cons a l ih =>
    cases l with
    | nil => simp [compL]
    | cons b l => unfold compL; split <;> simp at ih ⊢ <;> omega
end
end Go.Proofs.Ytenckggfgbkfnaa
end
section
namespace Go.Proofs.Ytenckggfgbkfnaa
open Go Go.RowKit
/-- The position of a cell is ahead of another one's. -/
def cBef (a b : Int × Int × Int) : Bool := befP a.1 a.2.1 b.1 b.2.1
def cmpO (a b : Int × Int × Int) : Int := cmpP a.1 a.2.1 b.1 b.2.1
def okC (l : List (Int × Int × Int)) (i : Nat) : Bool := match l[i]? with
  | none => true
  | some p => validB p.1 p.2.1 && decide (1 ≤ p.2.2 ∧ p.2.2 ≤ 7) && (i == 0 || (match l[i - 1]? with | none => true | some q => cBef q p))
def rightC (l : List (Int × Int × Int)) : Bool := decide (l.length ≤ 5000) && (List.range l.length).all (okC l)
section
variable {l : List (Int × Int × Int)} {n j : Nat} {x y s a b c : Int}
theorem rightC_len (hl : l.length = n) (h : 5000 < n) : rightC l = false := by
  unfold rightC; rw [hl, decide_eq_false (by omega)]; rfl
theorem rightC_bad (hl : l.length = n) (hj : j < n) (h : okC l j = false) : rightC l = false := by
  unfold rightC
  rw [hl, Bool.and_eq_false_iff]
  right
  rw [List.all_eq_false]
  exact ⟨j, by simpa using hj, by simp [h]⟩
theorem rightC_all (hl : l.length = n) (h2 : n ≤ 5000) (h : ∀ j, j < n → okC l j = true) : rightC l = true := by
  unfold rightC
  rw [hl, decide_eq_true (by omega), Bool.true_and, List.all_eq_true]
  intro j hj
  exact h j (by simpa using hj)
theorem okC_step (h : ∀ r, r < j → okC l r = true) (hj : okC l j = true) : ∀ r, r < j + 1 → okC l r = true := by
  intro r hr
  by_cases e : r = j
  · rw [e]; exact hj
  · exact h r (by omega)
theorem okC_place (hx : l[j]? = some (x, y, s)) (h : validB x y = false) : okC l j = false := by
  unfold okC; rw [hx]; simp only [h, Bool.false_and]
theorem okC_state (hx : l[j]? = some (x, y, s)) (h : s < 1 ∨ 7 < s) : okC l j = false := by
  unfold okC; rw [hx]
  have : decide (1 ≤ s ∧ s ≤ 7) = false := decide_eq_false (by omega)
  simp only [this, Bool.and_false, Bool.false_and]
theorem okC_first (hx : l[0]? = some (x, y, s)) (hv : validB x y = true) (h : 1 ≤ s ∧ s ≤ 7) : okC l 0 = true := by
  unfold okC; rw [hx]
  have : decide (1 ≤ s ∧ s ≤ 7) = true := decide_eq_true h
  simp only [this, hv]; rfl
theorem okC_next (hj : 0 < j) (hx : l[j]? = some (x, y, s)) (hp : l[j - 1]? = some (a, b, c)) (hv : validB x y = true) (h : 1 ≤ s ∧ s ≤ 7) : okC l j = befP a b x y := by
  unfold okC; rw [hx, hp]
  have h1 : decide (1 ≤ s ∧ s ≤ 7) = true := decide_eq_true h
  have h2 : (j == 0) = false := by simp; omega
  simp only [h1, hv, h2]; rfl
theorem rightC_ok (h : rightC l = true) : l.length ≤ 5000 ∧ ∀ j, okC l j = true := by
  unfold rightC at h
  rw [Bool.and_eq_true, List.all_eq_true, decide_eq_true_eq] at h
  refine ⟨h.1, fun j => ?_⟩
  by_cases hj : j < l.length
  · exact h.2 j (by simpa using hj)
  · unfold okC; rw [List.getElem?_eq_none (by omega)]
theorem rightC_elem (h : rightC l = true) (hx : l[j]? = some (x, y, s)) : Pt x y ∧ 1 ≤ s ∧ s ≤ 7 := by
  have := (rightC_ok h).2 j
  unfold okC at this
  rw [hx] at this
  simp only [Bool.and_eq_true, decide_eq_true_eq] at this
  exact ⟨validB_iff.1 this.1.1, this.1.2.1, this.1.2.2⟩
end
theorem cBef_irr (a : Int × Int × Int) : cBef a a = false := by unfold cBef befP; exact decide_eq_false (by omega)
theorem cBef_tr {a b c : Int × Int × Int} (h1 : cBef a b = true) (h2 : cBef b c = true) : cBef a c = true := by
  unfold cBef befP at *; simp only [decide_eq_true_eq] at *; omega
/-- Cells in the order of their positions, each position once. -/
def SSC (l : List (Int × Int × Int)) : Prop := l.Pairwise fun a b => cBef a b = true
theorem pairwise_of_next {α : Type} {r : α → α → Prop} (tr : ∀ a b c, r a b → r b c → r a c) : ∀ (l : List α), (∀ j a b, l[j]? = some a → l[j + 1]? = some b → r a b) → l.Pairwise r
  | [], _ => List.Pairwise.nil
  | [a], _ => by simp
  | a :: b :: l, h => by
    have ih := pairwise_of_next tr (b :: l) (fun j x y hx hy => h (j + 1) x y (by simpa using hx) (by simpa using hy))
    refine List.pairwise_cons.2 ⟨fun x hx => ?_, ih⟩
    have hab : r a b := h 0 a b rfl rfl
    rcases List.mem_cons.1 hx with rfl | hm
    · exact hab
    · exact tr _ _ _ hab ((List.pairwise_cons.1 ih).1 x hm)
theorem rightC_sorted {l : List (Int × Int × Int)} (h : rightC l = true) : SSC l := by
  refine pairwise_of_next (r := fun a b => cBef a b = true) (fun a b c h1 h2 => cBef_tr h1 h2) l fun j p q hp hq => ?_
  have := (rightC_ok h).2 (j + 1)
  unfold okC at this
  rw [hq, show j + 1 - 1 = j by omega, hp] at this
  simp only [Bool.and_eq_true, Bool.or_eq_true] at this
  rcases this.2 with h0 | h0
  · simp at h0
  · exact h0
theorem rightC_of {l : List (Int × Int × Int)} (h1 : l.length ≤ 5000) (h2 : ∀ p, p ∈ l → Pt p.1 p.2.1 ∧ 1 ≤ p.2.2 ∧ p.2.2 ≤ 7) (h3 : SSC l) : rightC l = true := by
  refine rightC_all rfl h1 fun j hj => ?_
  obtain ⟨p, hp⟩ : ∃ p, p = l[j] := ⟨_, rfl⟩
  obtain ⟨x, y, s⟩ := p
  have hx : l[j]? = some (x, y, s) := by rw [List.getElem?_eq_getElem hj, ← hp]
  have hm := h2 _ (List.mem_of_getElem? hx)
  have hv := validB_iff.2 hm.1
  rcases Nat.eq_zero_or_pos j with rfl | h0
  · exact okC_first hx hv hm.2
  · have hj1 : j - 1 < l.length := by omega
    obtain ⟨q, hq⟩ : ∃ q, q = l[j - 1] := ⟨_, rfl⟩
    obtain ⟨a, b, c⟩ := q
    have hy : l[j - 1]? = some (a, b, c) := by rw [List.getElem?_eq_getElem hj1, ← hq]
    rw [okC_next h0 hx hy hv hm.2]
    have := (List.pairwise_iff_getElem.1 h3) (j - 1) j (by omega) hj (by omega)
    rw [← hp, ← hq] at this
    exact this
/-- The state at a position. -/
def getC : List (Int × Int × Int) → Int → Int → Int
  | [], _, _ => 0
  | c :: l, x, y => if c.1 = x ∧ c.2.1 = y then c.2.2 else getC l x y
theorem getC_found : ∀ {l : List (Int × Int × Int)} {j : Nat} {x y s : Int}, (∀ r a b c, r < j → l[r]? = some (a, b, c) → ¬(a = x ∧ b = y)) → l[j]? = some (x, y, s) → getC l x y = s
  | [], j, x, y, s, _, h => by simp at h
  | c :: l, 0, x, y, s, _, h => by
    have e : c = (x, y, s) := by simpa using h
    subst e; simp [getC]
  | c :: l, j + 1, x, y, s, hn, h => by
    have h0 := hn 0 c.1 c.2.1 c.2.2 (by omega) rfl
    unfold getC
    rw [if_neg h0]
    exact getC_found (fun r a b d hr hx => hn (r + 1) a b d (Nat.succ_lt_succ hr) (by simpa using hx)) (by simpa using h)
theorem getC_none : ∀ {l : List (Int × Int × Int)} {x y : Int}, (∀ (r : Nat) a b c, l[r]? = some (a, b, c) → ¬(a = x ∧ b = y)) → getC l x y = 0
  | [], _, _, _ => rfl
  | c :: l, x, y, h => by
    unfold getC
    rw [if_neg (h 0 c.1 c.2.1 c.2.2 rfl)]
    exact getC_none fun r a b d hx => h (r + 1) a b d (by simpa using hx)
def topC (l : List (Int × Int × Int)) : Int := l.foldl (fun m p => max m p.2.2) 0
theorem topC_step {l : List (Int × Int × Int)} {j : Nat} {x y s : Int} (h : l[j]? = some (x, y, s)) : topC (l.take (j + 1)) = max (topC (l.take j)) s := by
  unfold topC; rw [List.take_add_one, List.foldl_append, h]; rfl
/-- The order of patterns. -/
def cmpC (a b : Int × Int × Int) : Int := orI (cmpO a b) (cmpI a.2.2 b.2.2)
def cmpL : List (Int × Int × Int) → List (Int × Int × Int) → Int
  | [], [] => 0
  | [], _ :: _ => -1
  | _ :: _, [] => 1
  | a :: l, b :: r => if a = b then cmpL l r else cmpC a b
theorem cmpC_self (a : Int × Int × Int) : cmpC a a = 0 := by unfold cmpC cmpO cmpP orI cmpI; simp
theorem cmpC_zero {a b : Int × Int × Int} (h : cmpC a b = 0) : a = b := by
  obtain ⟨a1, a2, a3⟩ := a
  obtain ⟨b1, b2, b3⟩ := b
  unfold cmpC cmpO cmpP orI cmpI at h
  simp only [Prod.mk.injEq]
  simp only at h
  split at h <;> (repeat' split at h) <;> omega
theorem cmpL_skip : ∀ {l r : List (Int × Int × Int)} {j : Nat}, j ≤ l.length → j ≤ r.length → (∀ i, i < j → l[i]? = r[i]?) → cmpL l r = cmpL (l.drop j) (r.drop j)
  | l, r, 0, _, _, _ => rfl
  | [], r, j + 1, h, _, _ => by simp at h
  | a :: l, [], j + 1, _, h, _ => by simp at h
  | a :: l, b :: r, j + 1, h1, h2, h => by
    have e : a = b := by have := h 0 (by omega); simpa using this
    subst e
    show (if a = a then cmpL l r else cmpC a a) = cmpL (l.drop j) (r.drop j)
    rw [if_pos rfl]
    exact cmpL_skip (by simpa using h1) (by simpa using h2) fun i hi => by have := h (i + 1) (by omega); simpa using this
theorem cmpL_at {l r : List (Int × Int × Int)} {j : Nat} {a b : Int × Int × Int} (h : ∀ i, i < j → l[i]? = r[i]?) (ha : l[j]? = some a) (hb : r[j]? = some b) (hne : a ≠ b) : cmpL l r = cmpC a b := by
  have h1 := (List.getElem?_eq_some_iff.1 ha).1
  have h2 := (List.getElem?_eq_some_iff.1 hb).1
  rw [cmpL_skip (by omega) (by omega) h, List.drop_eq_getElem_cons h1, List.drop_eq_getElem_cons h2]
  unfold cmpL
  rw [(List.getElem?_eq_some_iff.1 ha).2, (List.getElem?_eq_some_iff.1 hb).2, if_neg hne]
theorem cmpL_end {l r : List (Int × Int × Int)} {n m j : Nat} (hl : l.length = n) (hr : r.length = m) (hj : j ≤ n) (hk : j ≤ m) (h : ∀ i, i < j → l[i]? = r[i]?) (he : j = n ∨ j = m) : cmpL l r = cmpI n m := by
  rw [cmpL_skip (by omega) (by omega) h]
  unfold cmpI
  rcases he with rfl | rfl
  · rw [List.drop_of_length_le (by omega)]
    by_cases e : j = m
    · rw [List.drop_of_length_le (by omega), if_neg (by omega), if_neg (by omega)]; rfl
    · rw [List.drop_eq_getElem_cons (by omega), if_pos (by omega)]; rfl
  · rw [List.drop_of_length_le (by omega : r.length ≤ j)]
    by_cases e : j = n
    · rw [List.drop_of_length_le (by omega), if_neg (by omega), if_neg (by omega)]; rfl
    · rw [List.drop_eq_getElem_cons (by omega), if_neg (by omega), if_pos (by omega)]; rfl
end Go.Proofs.Ytenckggfgbkfnaa
end
section
namespace Go.Proofs.Ytenckggfgbkfnaa
open Go Go.RowKit
/-- What is wrong with one cell. -/
def frBad (c : Int × Int × Int) : Int := if validB c.1 c.2.1 = true then (if 0 ≤ c.2.2 ∧ c.2.2 ≤ 7 then 0 else 10) else 5
def frFirst : List (Int × Int × Int) → Int
  | [] => 0
  | c :: l => if frBad c = 0 then frFirst l else frBad c
theorem frFirst_bad : ∀ {l : List (Int × Int × Int)} {j : Nat} {c : Int × Int × Int} {e : Int}, (∀ i d, i < j → l[i]? = some d → frBad d = 0) → l[j]? = some c → frBad c = e → e ≠ 0 → frFirst l = e
  | [], j, c, e, _, h, _, _ => by simp at h
  | d :: l, 0, c, e, _, h, he, hn => by
    have : d = c := by simpa using h
    subst this
    unfold frFirst
    rw [he, if_neg hn]
  | d :: l, j + 1, c, e, hg, h, he, hn => by
    unfold frFirst
    rw [if_pos (hg 0 d (by omega) rfl)]
    exact frFirst_bad (fun i x hi hx => hg (i + 1) x (Nat.succ_lt_succ hi) (by simpa using hx)) (by simpa using h) he hn
theorem frFirst_good : ∀ {l : List (Int × Int × Int)}, (∀ (i : Nat) d, l[i]? = some d → frBad d = 0) → frFirst l = 0
  | [], _ => rfl
  | d :: l, hg => by
    unfold frFirst
    rw [if_pos (hg 0 d rfl)]
    exact frFirst_good fun i x hx => hg (i + 1) x (by simpa using hx)
/-- The cells with a state. -/
def nzC (c : Int × Int × Int) : Bool := decide (0 < c.2.2)
def nz (l : List (Int × Int × Int)) : List (Int × Int × Int) := l.filter nzC
theorem nz_step {l : List (Int × Int × Int)} {j : Nat} {c : Int × Int × Int} (h : l[j]? = some c) : nz (l.take (j + 1)) = nz (l.take j) ++ (if nzC c = true then [c] else []) := by
  unfold nz
  rw [List.take_add_one, List.filter_append, h]
  simp [List.filter_cons]
/-- Insertion behind those at the same position. -/
def insC : List (Int × Int × Int) → Int × Int × Int → List (Int × Int × Int)
  | [], c => [c]
  | d :: p, c => if cBef c d = true then c :: d :: p else d :: insC p c
def srtC (l : List (Int × Int × Int)) : List (Int × Int × Int) := l.foldl insC []
/-- No cell stands ahead of one that it is behind. -/
def WC (l : List (Int × Int × Int)) : Prop := l.Pairwise fun a b => cBef b a = false
theorem insC_perm : ∀ (p : List (Int × Int × Int)) (c : Int × Int × Int), (insC p c).Perm (c :: p)
  | [], c => List.Perm.refl _
  | d :: p, c => by
    unfold insC
    split
    · exact List.Perm.refl _
    · exact (List.Perm.cons d (insC_perm p c)).trans (List.Perm.swap c d p)
theorem cBef_asym {a b : Int × Int × Int} (h : cBef a b = true) : cBef b a = false := by
  unfold cBef befP at *; simp only [decide_eq_true_eq, decide_eq_false_iff_not] at *; omega
theorem cBef_weak {a b c : Int × Int × Int} (h1 : cBef a b = true) (h2 : cBef c b = false) : cBef c a = false := by
  unfold cBef befP at *; simp only [decide_eq_true_eq, decide_eq_false_iff_not] at *; omega
theorem insC_wc : ∀ (p : List (Int × Int × Int)) (c : Int × Int × Int), WC p → WC (insC p c)
  | [], c, _ => by simp [insC, WC]
  | d :: p, c, h => by
    unfold WC at h
    obtain ⟨h1, h2⟩ := List.pairwise_cons.1 h
    unfold insC
    split
    · rename_i hc
      refine List.pairwise_cons.2 ⟨fun x hx => ?_, h⟩
      rcases List.mem_cons.1 hx with rfl | hm
      · exact cBef_asym hc
      · exact cBef_weak hc (h1 x hm)
    · rename_i hc
      refine List.pairwise_cons.2 ⟨fun x hx => ?_, insC_wc p c h2⟩
      rcases List.mem_cons.1 ((insC_perm p c).mem_iff.1 hx) with rfl | hm
      · simpa using hc
      · exact h1 x hm
theorem srtC_aux : ∀ (l o : List (Int × Int × Int)), WC o → WC (l.foldl insC o) ∧ (l.foldl insC o).Perm (l ++ o)
  | [], o, h => ⟨h, List.Perm.refl _⟩
  | c :: l, o, h => by
    obtain ⟨h1, h2⟩ := srtC_aux l (insC o c) (insC_wc o c h)
    refine ⟨h1, h2.trans ?_⟩
    exact ((insC_perm o c).append_left l).trans List.perm_middle
theorem srtC_wc (l : List (Int × Int × Int)) : WC (srtC l) := (srtC_aux l [] List.Pairwise.nil).1
theorem srtC_perm (l : List (Int × Int × Int)) : (srtC l).Perm l := by
  have := (srtC_aux l [] List.Pairwise.nil).2
  simpa [srtC] using this
def posD (c : Int × Int × Int) : Int × Int := (c.1, c.2.1)
theorem ssc_iff {l : List (Int × Int × Int)} : SSC l ↔ WC l ∧ (l.map posD).Nodup := by
  unfold SSC WC List.Nodup
  rw [List.pairwise_map]
  constructor
  · intro h
    refine ⟨h.imp fun hab => cBef_asym hab, h.imp fun {a b} hab e => ?_⟩
    unfold posD at e
    injection e with e1 e2
    unfold cBef befP at hab
    simp only [decide_eq_true_eq] at hab
    omega
  · rintro ⟨h1, h2⟩
    rw [List.pairwise_iff_getElem] at *
    intro i j hi hj hij
    have a := h1 i j hi hj hij
    have b := h2 i j hi hj hij
    unfold posD at b
    unfold cBef befP at *
    simp only [decide_eq_true_eq, decide_eq_false_iff_not] at *
    rcases Classical.em (l[j].2.1 = l[i].2.1) with e | e
    · rcases Classical.em (l[j].1 = l[i].1) with f | f
      · exact absurd (by rw [e, f]) b
      · omega
    · omega
theorem ssc_unique : ∀ (a b : List (Int × Int × Int)), SSC a → SSC b → (∀ x, x ∈ a ↔ x ∈ b) → a = b
  | [], [], _, _, _ => rfl
  | [], y :: b, _, _, he => absurd ((he y).2 (by simp)) (by simp)
  | x :: a, [], _, _, he => absurd ((he x).1 (by simp)) (by simp)
  | x :: a, y :: b, ha, hb, he => by
    obtain ⟨h1, h2⟩ := List.pairwise_cons.1 ha
    obtain ⟨h3, h4⟩ := List.pairwise_cons.1 hb
    have hxy : x = y := by
      rcases List.mem_cons.1 ((he x).1 (by simp)) with e | hm
      · exact e
      · rcases List.mem_cons.1 ((he y).2 (by simp)) with e | hm2
        · exact e.symm
        · have := cBef_asym (h3 x hm)
          rw [h1 y hm2] at this; cases this
    subst hxy
    rw [ssc_unique a b h2 h4 fun z => ?_]
    constructor
    · intro hz
      rcases List.mem_cons.1 ((he z).1 (by simp [hz])) with e | hm
      · subst e; have := h1 z hz; rw [cBef_irr] at this; cases this
      · exact hm
    · intro hz
      rcases List.mem_cons.1 ((he z).2 (by simp [hz])) with e | hm
      · subst e; have := h3 z hz; rw [cBef_irr] at this; cases this
      · exact hm
theorem ssc_perm {l m : List (Int × Int × Int)} (hp : l.Perm m) (hl : WC l) (hm : WC m) : SSC l ↔ SSC m := by
  rw [ssc_iff, ssc_iff]
  have := (hp.map posD).nodup_iff
  exact ⟨fun ⟨_, h⟩ => ⟨hm, this.1 h⟩, fun ⟨_, h⟩ => ⟨hl, this.2 h⟩⟩
/-- Each cell is ahead of the next one. -/
def ssB : List (Int × Int × Int) → Bool
  | [] => true
  | [_] => true
  | a :: b :: l => cBef a b && ssB (b :: l)
theorem ssB_iff : ∀ {l : List (Int × Int × Int)}, ssB l = true ↔ SSC l
  | [] => by simp [ssB, SSC]
  | [a] => by simp [ssB, SSC]
  | a :: b :: l => by
    have ih := ssB_iff (l := b :: l)
    unfold ssB
    rw [Bool.and_eq_true, ih]
    constructor
    · rintro ⟨h1, h2⟩
      refine List.pairwise_cons.2 ⟨fun x hx => ?_, h2⟩
      rcases List.mem_cons.1 hx with rfl | hm
      · exact h1
      · exact cBef_tr h1 ((List.pairwise_cons.1 h2).1 x hm)
    · intro h
      obtain ⟨h1, h2⟩ := List.pairwise_cons.1 h
      exact ⟨h1 b (by simp), h2⟩
/-- The code that From returns, and the pattern. -/
def frE (l : List (Int × Int × Int)) : Int := if frFirst l = 0 then (if ssB (srtC (nz l)) = true then (if (nz l).length ≤ 5000 then 0 else 6) else 8) else frFirst l
def frL (l : List (Int × Int × Int)) : List (Int × Int × Int) := if frE l = 0 then srtC (nz l) else []
theorem frL_no {l : List (Int × Int × Int)} {e : Int} (h : frE l = e) (hn : e ≠ 0) : frL l = [] := by unfold frL; rw [if_neg (by rw [h]; exact hn)]
theorem frL_ok {l : List (Int × Int × Int)} (h : frE l = 0) : frL l = srtC (nz l) := by unfold frL; rw [if_pos h]
theorem frE_first {l : List (Int × Int × Int)} {e : Int} (h : frFirst l = e) (hn : e ≠ 0) : frE l = e := by unfold frE; rw [h, if_neg hn]
theorem frE_twice {l : List (Int × Int × Int)} (h : frFirst l = 0) (hs : ssB (srtC (nz l)) = false) : frE l = 8 := by unfold frE; rw [if_pos h, if_neg (by rw [hs]; simp)]
theorem frE_size {l : List (Int × Int × Int)} (h : frFirst l = 0) (hs : ssB (srtC (nz l)) = true) (hz : 5000 < (nz l).length) : frE l = 6 := by unfold frE; rw [if_pos h, if_pos hs, if_neg (by omega)]
theorem frE_ok {l : List (Int × Int × Int)} (h : frFirst l = 0) (hs : ssB (srtC (nz l)) = true) (hz : (nz l).length ≤ 5000) : frE l = 0 := by unfold frE; rw [if_pos h, if_pos hs, if_pos hz]
/-- A sorted list of the cells whose neighbours stand at different positions is the pattern. -/
theorem sorted_distinct {l' m : List (Int × Int × Int)} (hp : l'.Perm m) (hw : WC l') (hd : ∀ j a b, l'[j]? = some a → l'[j + 1]? = some b → posD a ≠ posD b) : ssB (srtC m) = true ∧ srtC m = l' := by
  have hs : SSC l' := by
    refine pairwise_of_next (r := fun a b => cBef a b = true) (fun a b c h1 h2 => cBef_tr h1 h2) l' fun j a b ha hb => ?_
    have h1 := (List.getElem?_eq_some_iff.1 ha)
    have h2 := (List.getElem?_eq_some_iff.1 hb)
    have hwk := (List.pairwise_iff_getElem.1 hw) j (j + 1) h1.1 h2.1 (by omega)
    rw [h1.2, h2.2] at hwk
    have hne := hd j a b ha hb
    unfold posD at hne
    unfold cBef befP at *
    simp only [decide_eq_true_eq, decide_eq_false_iff_not] at *
    rcases Classical.em (b.2.1 = a.2.1) with e | e
    · rcases Classical.em (b.1 = a.1) with f | f
      · exact absurd (by rw [e, f]) hne
      · omega
    · omega
  have hsm : SSC (srtC m) := (ssc_perm ((srtC_perm m).trans hp.symm) (srtC_wc m) hw).2 hs
  exact ⟨ssB_iff.2 hsm, ssc_unique _ _ hsm hs fun x => ((srtC_perm m).trans hp.symm).mem_iff⟩
/-- Two neighbours at one position: it is none. -/
theorem sorted_twice {l' m : List (Int × Int × Int)} {j : Nat} {a b : Int × Int × Int} (hp : l'.Perm m) (hw : WC l') (ha : l'[j]? = some a) (hb : l'[j + 1]? = some b) (he : posD a = posD b) : ssB (srtC m) = false := by
  rw [Bool.eq_false_iff]
  intro h
  have hs := (ssc_perm ((srtC_perm m).trans hp.symm) (srtC_wc m) hw).1 (ssB_iff.1 h)
  have h1 := (List.getElem?_eq_some_iff.1 ha)
  have h2 := (List.getElem?_eq_some_iff.1 hb)
  have := (List.pairwise_iff_getElem.1 hs) j (j + 1) h1.1 h2.1 (by omega)
  rw [h1.2, h2.2] at this
  unfold posD at he
  injection he with e1 e2
  unfold cBef befP at this
  simp only [decide_eq_true_eq] at this
  omega
end Go.Proofs.Ytenckggfgbkfnaa
end
section
namespace Go.Proofs.Ytenckggfgbkfnaa
open Go Go.RowKit
def atC (x y : Int) (c : Int × Int × Int) : Bool := decide (c.1 = x ∧ c.2.1 = y)
def offL (l : List (Int × Int × Int)) (x y : Int) : List (Int × Int × Int) := l.filter fun c => !atC x y c
theorem offL_step {l : List (Int × Int × Int)} {j : Nat} {c : Int × Int × Int} (x y : Int) (h : l[j]? = some c) : offL (l.take (j + 1)) x y = offL (l.take j) x y ++ (if atC x y c = true then [] else [c]) := by
  unfold offL
  rw [List.take_add_one, List.filter_append, h]
  cases hq : atC x y c <;> simp [List.filter_cons, hq]
theorem offL_len (l : List (Int × Int × Int)) (x y : Int) : (offL l x y).length ≤ l.length := List.length_filter_le _ _
def setR (l : List (Int × Int × Int)) (x y s : Int) : List (Int × Int × Int) := if 0 < s then insC (offL l x y) (x, y, s) else offL l x y
/-- The code that Set returns, and the pattern. -/
def setE (l : List (Int × Int × Int)) (x y s : Int) : Int := if rightC l = false then 2 else if validB x y = false then 5 else if s < 0 ∨ 8 ≤ s then 10 else if 5000 < (setR l x y s).length then 6 else 0
def setL (l : List (Int × Int × Int)) (x y s : Int) : List (Int × Int × Int) := if setE l x y s = 0 then setR l x y s else []
theorem setE_list {l : List (Int × Int × Int)} (x y s : Int) (h : rightC l = false) : setE l x y s = 2 := by unfold setE; rw [if_pos h]
theorem setE_place {l : List (Int × Int × Int)} {x y : Int} (s : Int) (h : rightC l = true) (h2 : validB x y = false) : setE l x y s = 5 := by unfold setE; rw [if_neg (by rw [h]; simp), if_pos h2]
theorem setE_state {l : List (Int × Int × Int)} {x y s : Int} (h : rightC l = true) (h2 : validB x y = true) (h3 : s < 0 ∨ 8 ≤ s) : setE l x y s = 10 := by unfold setE; rw [if_neg (by rw [h]; simp), if_neg (by rw [h2]; simp), if_pos h3]
theorem setE_size {l : List (Int × Int × Int)} {x y s : Int} (h : rightC l = true) (h2 : validB x y = true) (h3 : 0 ≤ s) (h4 : s ≤ 7) (h5 : 5000 < (setR l x y s).length) : setE l x y s = 6 := by unfold setE; rw [if_neg (by rw [h]; simp), if_neg (by rw [h2]; simp), if_neg (by omega), if_pos h5]
theorem setE_ok {l : List (Int × Int × Int)} {x y s : Int} (h : rightC l = true) (h2 : validB x y = true) (h3 : 0 ≤ s) (h4 : s ≤ 7) (h5 : (setR l x y s).length ≤ 5000) : setE l x y s = 0 := by unfold setE; rw [if_neg (by rw [h]; simp), if_neg (by rw [h2]; simp), if_neg (by omega), if_neg (by omega)]
theorem setL_no {l : List (Int × Int × Int)} {x y s e : Int} (h : setE l x y s = e) (hn : e ≠ 0) : setL l x y s = [] := by unfold setL; rw [if_neg (by rw [h]; exact hn)]
theorem setL_ok {l : List (Int × Int × Int)} {x y s : Int} (h : setE l x y s = 0) : setL l x y s = setR l x y s := by unfold setL; rw [if_pos h]
end Go.Proofs.Ytenckggfgbkfnaa
end
section
namespace Go.Proofs.Ytenckggfgbkfnaa
open Go Go.RowKit
theorem insC_mid : ∀ (a b : List (Int × Int × Int)) (c : Int × Int × Int), (∀ d ∈ a, cBef c d = false) → (∀ d ∈ b, cBef c d = true) → insC (a ++ b) c = a ++ c :: b
  | [], [], c, _, _ => rfl
  | [], d :: b, c, _, h => by
    show (if cBef c d = true then c :: d :: b else d :: insC b c) = _
    rw [if_pos (h d (by simp))]; rfl
  | d :: a, b, c, h, h2 => by
    show (if cBef c d = true then c :: d :: (a ++ b) else d :: insC (a ++ b) c) = _
    rw [if_neg (by rw [h d (by simp)]; simp), insC_mid a b c (fun x hx => h x (by simp [hx])) h2]; rfl
theorem offL_all {l : List (Int × Int × Int)} {x y : Int} (h : ∀ d ∈ l, atC x y d = false) : offL l x y = l := by
  unfold offL; exact List.filter_eq_self.2 fun d hd => by rw [h d hd]; rfl
theorem atC_bef {d : Int × Int × Int} {x y s : Int} (h : cBef d (x, y, s) = true ∨ cBef (x, y, s) d = true) : atC x y d = false := by
  unfold atC
  unfold cBef befP at h
  simp only [decide_eq_true_eq] at h
  exact decide_eq_false (by omega)
theorem bef_of {d : Int × Int × Int} {x y s : Int} (h1 : cBef d (x, y, s) = false) (h2 : atC x y d = false) : cBef (x, y, s) d = true := by
  unfold atC at h2
  unfold cBef befP at *
  simp only [decide_eq_true_eq, decide_eq_false_iff_not] at *
  omega
section
variable {l : List (Int × Int × Int)} {x y s t : Int} {k : Nat}
/-- All cells ahead of k are ahead of the position, those from j on are behind it, and between them stand cells at the position. -/
theorem set_mid {a m b : List (Int × Int × Int)} (hl : l = a ++ m ++ b) (ha : ∀ d ∈ a, cBef d (x, y, s) = true) (hb : ∀ d ∈ b, cBef (x, y, s) d = true) (hm : ∀ d ∈ m, atC x y d = true) :
    offL l x y = a ++ b ∧ insC (offL l x y) (x, y, s) = a ++ (x, y, s) :: b := by
  have h1 : offL l x y = a ++ b := by
    rw [hl]
    have ea : offL a x y = a := offL_all fun d hd => atC_bef (.inl (ha d hd))
    have eb : offL b x y = b := offL_all fun d hd => atC_bef (.inr (hb d hd))
    have em : offL m x y = [] := by
      unfold offL; exact List.filter_eq_nil_iff.2 fun d hd => by rw [hm d hd]; simp
    unfold offL at *
    rw [List.filter_append, List.filter_append, ea, eb, em, List.append_nil]
  exact ⟨h1, by rw [h1]; exact insC_mid a b _ (fun d hd => cBef_asym (ha d hd)) hb⟩
theorem mem_take_get {α : Type} {l : List α} {k : Nat} {d : α} (h : d ∈ l.take k) : ∃ r, r < k ∧ l[r]? = some d := by
  obtain ⟨r, hr, e⟩ := List.getElem_of_mem h
  rw [List.length_take] at hr
  refine ⟨r, by omega, ?_⟩
  rw [← e, List.getElem_take, List.getElem?_eq_getElem]
theorem mem_drop_get {α : Type} {l : List α} {k : Nat} {d : α} (h : d ∈ l.drop k) : ∃ r, k ≤ r ∧ l[r]? = some d := by
  obtain ⟨r, hr, e⟩ := List.getElem_of_mem h
  rw [List.length_drop] at hr
  refine ⟨k + r, by omega, ?_⟩
  rw [← e, List.getElem_drop, List.getElem?_eq_getElem]
theorem ssc_lt (h : SSC l) {i j : Nat} {a b : Int × Int × Int} (ha : l[i]? = some a) (hb : l[j]? = some b) (hij : i < j) : cBef a b = true := by
  have h1 := List.getElem?_eq_some_iff.1 ha
  have h2 := List.getElem?_eq_some_iff.1 hb
  have := (List.pairwise_iff_getElem.1 h) i j h1.1 h2.1 hij
  rw [h1.2, h2.2] at this; exact this
/-- A cell stands there at k. -/
theorem set_there (hS : SSC l) (hlo : ∀ r d, r < k → l[r]? = some d → cBef d (x, y, s) = true) (hk : l[k]? = some (x, y, t)) :
    offL l x y = l.take k ++ l.drop (k + 1) ∧ insC (offL l x y) (x, y, s) = l.take k ++ (x, y, s) :: l.drop (k + 1) := by
  have hkl := (List.getElem?_eq_some_iff.1 hk).1
  refine set_mid (m := [(x, y, t)]) ?_ (fun d hd => ?_) (fun d hd => ?_) (fun d hd => ?_)
  · have e : l.drop k = (x, y, t) :: l.drop (k + 1) := by
      rw [List.drop_eq_getElem_cons hkl]
      congr 1
      exact (List.getElem?_eq_some_iff.1 hk).2
    rw [List.append_assoc, List.singleton_append, ← e, List.take_append_drop]
  · obtain ⟨r, hr, e⟩ := mem_take_get hd
    exact hlo r d hr e
  · obtain ⟨r, hr, e⟩ := mem_drop_get hd
    have := ssc_lt hS hk e (by omega)
    unfold cBef at *
    exact this
  · rw [List.mem_singleton.1 hd]; unfold atC; exact decide_eq_true ⟨rfl, rfl⟩
/-- No cell stands there. -/
theorem set_none (hS : SSC l) (hlo : ∀ r d, r < k → l[r]? = some d → cBef d (x, y, s) = true) (hhi : ∀ r d, k ≤ r → l[r]? = some d → cBef d (x, y, s) = false) (hno : ∀ t, l[k]? ≠ some (x, y, t)) :
    offL l x y = l ∧ insC (offL l x y) (x, y, s) = l.take k ++ (x, y, s) :: l.drop k := by
  have key := set_mid (l := l) (x := x) (y := y) (s := s) (a := l.take k) (m := []) (b := l.drop k) (by rw [List.append_nil, List.take_append_drop]) (fun d hd => by
      obtain ⟨r, hr, e⟩ := mem_take_get hd
      exact hlo r d hr e) (fun d hd => by
      obtain ⟨r, hr, e⟩ := mem_drop_get hd
      by_cases hrk : r = k
      · subst hrk
        refine bef_of (hhi r d hr e) (Bool.eq_false_iff.2 fun h => ?_)
        obtain ⟨d1, d2, d3⟩ := d
        unfold atC at h
        simp only [decide_eq_true_eq] at h
        obtain ⟨rfl, rfl⟩ := h
        exact hno d3 e
      · have hrl := (List.getElem?_eq_some_iff.1 e).1
        obtain ⟨p, hp⟩ : ∃ p, l[k]? = some p := ⟨_, List.getElem?_eq_getElem (by omega)⟩
        have h1 := ssc_lt hS hp e (by omega)
        have h2 := hhi k p (Nat.le_refl _) hp
        unfold cBef befP at *
        simp only [decide_eq_true_eq, decide_eq_false_iff_not] at *
        omega) (fun d hd => by cases hd)
  rwa [List.take_append_drop] at key
theorem set_len (hk : l[k]? = some (x, y, t)) : (l.take k ++ l.drop (k + 1)).length + 1 = l.length ∧ (l.take k ++ (x, y, s) :: l.drop (k + 1)).length = l.length := by
  have hkl := (List.getElem?_eq_some_iff.1 hk).1
  simp only [List.length_append, List.length_take, List.length_drop, List.length_cons]; omega
theorem set_at (hk : l[k]? = some (x, y, t)) : l.take k ++ (x, y, s) :: l.drop (k + 1) = l.set k (x, y, s) := by
  have hkl := (List.getElem?_eq_some_iff.1 hk).1
  rw [List.set_eq_take_append_cons_drop, if_pos hkl]
end
end Go.Proofs.Ytenckggfgbkfnaa
end
section
namespace Go.Proofs.Ytenckggfgbkfnaa
open Go Go.RowKit
def mv5 (dx dy : Int) (c : Int × Int × Int) : Int × Int × Int := (c.1 + dx, c.2.1 + dy, c.2.2)
theorem cBef_mv (dx dy : Int) (a b : Int × Int × Int) : cBef (mv5 dx dy a) (mv5 dx dy b) = cBef a b := by
  unfold cBef befP mv5; simp only; congr 1; rw [eq_iff_iff]; omega
theorem rightC_mv {l : List (Int × Int × Int)} {dx dy : Int} (h : rightC l = true) (hp : ∀ c ∈ l, Pt (c.1 + dx) (c.2.1 + dy)) : rightC (l.map (mv5 dx dy)) = true := by
  refine rightC_of (by rw [List.length_map]; exact (rightC_ok h).1) (fun p hm => ?_) ?_
  · obtain ⟨c, hc, rfl⟩ := List.mem_map.1 hm
    obtain ⟨i, hi⟩ := List.getElem?_of_mem hc
    obtain ⟨c1, c2, c3⟩ := c
    have := rightC_elem h hi
    exact ⟨hp _ hc, this.2⟩
  · unfold SSC
    rw [List.pairwise_map]
    exact (rightC_sorted h).imp fun {a b} hab => by rw [cBef_mv]; exact hab
theorem mv_back (l : List (Int × Int × Int)) (dx dy : Int) : (l.map (mv5 dx dy)).map (mv5 (-dx) (-dy)) = l := by
  rw [List.map_map]
  conv => rhs; rw [← List.map_id l]
  refine List.map_congr_left fun c _ => ?_
  obtain ⟨a, b, s⟩ := c
  show (a + dx + -dx, b + dy + -dy, s) = (a, b, s)
  rw [show a + dx + -dx = a by omega, show b + dy + -dy = b by omega]
/-- States. -/
theorem getC_mem : ∀ {l : List (Int × Int × Int)} {x y s : Int}, SSC l → (x, y, s) ∈ l → getC l x y = s
  | [], _, _, _, _, h => by cases h
  | c :: l, x, y, s, hS, h => by
    obtain ⟨h1, h2⟩ := List.pairwise_cons.1 hS
    unfold getC
    rcases List.mem_cons.1 h with e | hm
    · subst e; rw [if_pos ⟨rfl, rfl⟩]
    · have := h1 _ hm
      rw [if_neg (fun ⟨e1, e2⟩ => by
        unfold cBef befP at this
        simp only [decide_eq_true_eq] at this
        omega)]
      exact getC_mem h2 hm
theorem getC_not : ∀ {l : List (Int × Int × Int)} {x y : Int}, (∀ c ∈ l, ¬(c.1 = x ∧ c.2.1 = y)) → getC l x y = 0
  | [], _, _, _ => rfl
  | c :: l, x, y, h => by
    unfold getC
    rw [if_neg (h c (by simp))]
    exact getC_not fun d hd => h d (by simp [hd])
theorem mem_offL {l : List (Int × Int × Int)} {x y : Int} {c : Int × Int × Int} : c ∈ offL l x y ↔ c ∈ l ∧ ¬(c.1 = x ∧ c.2.1 = y) := by
  unfold offL atC
  rw [List.mem_filter, Bool.not_eq_true', decide_eq_false_iff_not]
theorem mem_insC {l : List (Int × Int × Int)} {c d : Int × Int × Int} : d ∈ insC l c ↔ d = c ∨ d ∈ l := by
  rw [(insC_perm l c).mem_iff, List.mem_cons]
theorem ssc_offL {l : List (Int × Int × Int)} {x y : Int} (h : SSC l) : SSC (offL l x y) := by
  unfold offL; exact h.sublist List.filter_sublist
theorem ssc_setR {l : List (Int × Int × Int)} {x y s : Int} (h : SSC l) : SSC (setR l x y s) := by
  unfold setR
  split
  · have h1 := ssc_iff.1 (ssc_offL (x := x) (y := y) h)
    refine ssc_iff.2 ⟨insC_wc _ _ h1.1, ?_⟩
    rw [((insC_perm _ _).map posD).nodup_iff, List.map_cons, List.nodup_cons]
    refine ⟨fun hm => ?_, h1.2⟩
    obtain ⟨c, hc, e⟩ := List.mem_map.1 hm
    have := (mem_offL.1 hc).2
    unfold posD at e
    injection e with e1 e2
    exact this ⟨e1, e2⟩
  · exact ssc_offL h
theorem mem_setR {l : List (Int × Int × Int)} {x y s : Int} {c : Int × Int × Int} : c ∈ setR l x y s ↔ (0 < s ∧ c = (x, y, s)) ∨ (c ∈ l ∧ ¬(c.1 = x ∧ c.2.1 = y)) := by
  unfold setR
  split
  · rename_i h
    rw [mem_insC, mem_offL]; simp [h]
  · rename_i h
    rw [mem_offL]; simp [h]
theorem setE_zero {l : List (Int × Int × Int)} {x y s : Int} (h : setE l x y s = 0) : rightC l = true ∧ validB x y = true ∧ 0 ≤ s ∧ s ≤ 7 ∧ (setR l x y s).length ≤ 5000 := by
  unfold setE at h
  split at h
  · cases h
  · split at h
    · cases h
    · split at h
      · cases h
      · split at h
        · cases h
        · rename_i h1 h2 h3 h4
          exact ⟨by simpa using h1, by simpa using h2, by omega, by omega, by omega⟩
theorem setL_right {l : List (Int × Int × Int)} {x y s : Int} (h : setE l x y s = 0) : rightC (setL l x y s) = true := by
  obtain ⟨h1, h2, h3, h4, h5⟩ := setE_zero h
  rw [setL_ok h]
  refine rightC_of h5 (fun p hp => ?_) (ssc_setR (rightC_sorted h1))
  rcases mem_setR.1 hp with ⟨h0, rfl⟩ | ⟨hm, _⟩
  · exact ⟨validB_iff.1 h2, by simp only; omega, by simp only; omega⟩
  · obtain ⟨i, hi⟩ := List.getElem?_of_mem hm
    obtain ⟨a, b, c⟩ := p
    exact rightC_elem h1 hi
theorem setL_get {l : List (Int × Int × Int)} {x y s : Int} (h : setE l x y s = 0) : getC (setL l x y s) x y = s := by
  obtain ⟨h1, h2, h3, h4, h5⟩ := setE_zero h
  rw [setL_ok h]
  by_cases h0 : 0 < s
  · exact getC_mem (ssc_setR (rightC_sorted h1)) (mem_setR.2 (.inl ⟨h0, rfl⟩))
  · rw [getC_not fun c hc => ?_]
    · omega
    · rcases mem_setR.1 hc with ⟨h7, _⟩ | ⟨_, hn⟩
      · exact absurd h7 h0
      · exact hn
theorem setL_other {l : List (Int × Int × Int)} {x y s a b c : Int} (h : setE l x y s = 0) (hm : (a, b, c) ∈ l) (hn : ¬(a = x ∧ b = y)) : getC (setL l x y s) a b = c := by
  obtain ⟨h1, _⟩ := setE_zero h
  rw [setL_ok h]
  exact getC_mem (ssc_setR (rightC_sorted h1)) (mem_setR.2 (.inr ⟨hm, hn⟩))
theorem frE_zero {l : List (Int × Int × Int)} (h : frE l = 0) : frFirst l = 0 ∧ ssB (srtC (nz l)) = true ∧ (nz l).length ≤ 5000 := by
  unfold frE at h
  split at h
  · split at h
    · split at h
      · exact ⟨‹_›, ‹_›, ‹_›⟩
      · cases h
    · cases h
  · exact absurd h ‹_›
theorem frFirst_all : ∀ {l : List (Int × Int × Int)}, frFirst l = 0 → ∀ c ∈ l, frBad c = 0
  | [], _, c, hc => by cases hc
  | d :: l, h, c, hc => by
    unfold frFirst at h
    split at h
    · rcases List.mem_cons.1 hc with rfl | hm
      · assumption
      · exact frFirst_all h c hm
    · exact absurd h ‹_›
theorem frL_right {l : List (Int × Int × Int)} (h : frE l = 0) : rightC (frL l) = true := by
  obtain ⟨h1, h2, h3⟩ := frE_zero h
  rw [frL_ok h]
  refine rightC_of (by rw [(srtC_perm _).length_eq]; exact h3) (fun p hp => ?_) (ssB_iff.1 h2)
  have hm := (srtC_perm _).mem_iff.1 hp
  unfold nz nzC at hm
  obtain ⟨hm, h0⟩ := List.mem_filter.1 hm
  have hb := frFirst_all h1 p hm
  unfold frBad at hb
  simp only [decide_eq_true_eq] at h0
  split at hb
  · rename_i hv
    split at hb
    · exact ⟨validB_iff.1 hv, by omega, by omega⟩
    · cases hb
  · cases hb
theorem frL_get {l : List (Int × Int × Int)} {x y s : Int} (h : frE l = 0) (hm : (x, y, s) ∈ l) (h0 : s ≠ 0) : getC (frL l) x y = s := by
  obtain ⟨h1, h2, h3⟩ := frE_zero h
  have hb := frFirst_all h1 _ hm
  rw [frL_ok h]
  refine getC_mem (ssB_iff.1 h2) ((srtC_perm _).mem_iff.2 (List.mem_filter.2 ⟨hm, ?_⟩))
  unfold frBad at hb
  unfold nzC
  split at hb
  · split at hb
    · exact decide_eq_true (by simp only at *; omega)
    · cases hb
  · cases hb
/-- How many cells have a state. -/
def nzN (l : List (Int × Int × Int)) : Nat := (l.filter fun c => c.2.2 != 0).length
theorem nzN_frL {l : List (Int × Int × Int)} (h : frE l = 0) : (frL l).length = nzN l := by
  obtain ⟨h1, h2, h3⟩ := frE_zero h
  rw [frL_ok h, (srtC_perm _).length_eq]
  unfold nz nzN
  congr 1
  refine List.filter_congr fun c hc => ?_
  have hb := frFirst_all h1 c hc
  unfold frBad at hb
  unfold nzC
  split at hb
  · split at hb
    · rw [Bool.eq_iff_iff]; simp only [decide_eq_true_eq, bne_iff_ne, ne_eq]; omega
    · cases hb
  · cases hb
theorem nzN_step {l : List (Int × Int × Int)} {j : Nat} {x y s : Int} (h : l[j]? = some (x, y, s)) : nzN (l.take (j + 1)) = nzN (l.take j) + (if s = 0 then 0 else 1) := by
  unfold nzN
  rw [List.take_add_one, List.filter_append, h, List.length_append]
  simp only [Option.toList_some, List.filter_cons, List.filter_nil]
  by_cases h0 : s = 0
  · rw [if_neg (by simp [h0]), if_pos h0]; rfl
  · rw [if_pos (by simpa using h0), if_neg h0]; rfl
theorem nzN_le (l : List (Int × Int × Int)) : nzN l ≤ l.length := List.length_filter_le _ _
/-- The order. -/
theorem cmpI_neg (a b : Int) : cmpI b a = -cmpI a b := by unfold cmpI; (repeat' split) <;> omega
theorem cmpI_bd (a b : Int) : -1 ≤ cmpI a b ∧ cmpI a b ≤ 1 := by unfold cmpI; (repeat' split) <;> omega
theorem cmpC_neg (a b : Int × Int × Int) : cmpC b a = -cmpC a b := by unfold cmpC cmpO cmpP orI cmpI; (repeat' split) <;> omega
theorem cmpC_bd (a b : Int × Int × Int) : -1 ≤ cmpC a b ∧ cmpC a b ≤ 1 := by unfold cmpC cmpO cmpP orI cmpI; (repeat' split) <;> omega
theorem cmpL_bd : ∀ (a b : List (Int × Int × Int)), -1 ≤ cmpL a b ∧ cmpL a b ≤ 1
  | [], [] => by decide
  | [], _ :: _ => by unfold cmpL; omega
  | _ :: _, [] => by unfold cmpL; omega
  | a :: l, b :: r => by
    unfold cmpL
    split
    · exact cmpL_bd l r
    · exact cmpC_bd a b
theorem cmpL_neg : ∀ (a b : List (Int × Int × Int)), cmpL b a = -cmpL a b
  | [], [] => by decide
  | [], _ :: _ => rfl
  | _ :: _, [] => rfl
  | a :: l, b :: r => by
    unfold cmpL
    by_cases h : a = b
    · rw [if_pos h, if_pos h.symm]; exact cmpL_neg l r
    · rw [if_neg h, if_neg (fun e => h e.symm)]; exact cmpC_neg a b
theorem cmpL_zero : ∀ (a b : List (Int × Int × Int)), cmpL a b = 0 ↔ a = b
  | [], [] => by simp [cmpL]
  | [], _ :: _ => by simp [cmpL]
  | _ :: _, [] => by simp [cmpL]
  | a :: l, b :: r => by
    unfold cmpL
    by_cases h : a = b
    · rw [if_pos h, cmpL_zero l r, h]; simp
    · rw [if_neg h]
      constructor
      · intro h2; exact absurd (cmpC_zero h2) h
      · intro h2; injection h2 with h3; exact absurd h3 h
theorem cmpC_le {a b : Int × Int × Int} : cmpC a b ≤ 0 ↔ (a.2.1 < b.2.1 ∨ a.2.1 = b.2.1 ∧ (a.1 < b.1 ∨ a.1 = b.1 ∧ a.2.2 ≤ b.2.2)) := by
  unfold cmpC cmpO cmpP orI cmpI; (repeat' split) <;> omega
theorem cmpC_tr {a b c : Int × Int × Int} (h1 : cmpC a b ≤ 0) (h2 : cmpC b c ≤ 0) : cmpC a c ≤ 0 := by
  rw [cmpC_le] at *; omega
theorem cmpL_tr : ∀ (a b c : List (Int × Int × Int)), cmpL a b ≤ 0 → cmpL b c ≤ 0 → cmpL a c ≤ 0
  | [], _, [], _, _ => by simp [cmpL]
  | [], _, _ :: _, _, _ => by simp [cmpL]
  | _ :: _, [], _, h, _ => by simp [cmpL] at h
  | _ :: _, _ :: _, [], _, h => by simp [cmpL] at h
  | a :: l, b :: r, c :: q, h1, h2 => by
    unfold cmpL at *
    by_cases e1 : a = b
    · subst e1
      rw [if_pos rfl] at h1
      by_cases e2 : a = c
      · subst e2
        rw [if_pos rfl] at h2 ⊢
        exact cmpL_tr l r q h1 h2
      · rw [if_neg e2] at h2 ⊢; exact h2
    · rw [if_neg e1] at h1
      by_cases e2 : b = c
      · subst e2
        rw [if_neg e1]; exact h1
      · rw [if_neg e2] at h2
        by_cases e3 : a = c
        · subst e3
          exfalso
          have := cmpC_neg a b
          have h0 : cmpC a b ≠ 0 := fun h => e1 (cmpC_zero h)
          omega
        · rw [if_neg e3]; exact cmpC_tr h1 h2
theorem cmpI_add (a b d : Int) : cmpI (a + d) (b + d) = cmpI a b := by
  unfold cmpI; (repeat' split) <;> omega
theorem cmpC_mv (dx dy : Int) (a b : Int × Int × Int) : cmpC (mv5 dx dy a) (mv5 dx dy b) = cmpC a b := by
  unfold cmpC cmpO cmpP mv5; simp only [cmpI_add]
theorem cmpL_mv (dx dy : Int) : ∀ (a b : List (Int × Int × Int)), cmpL (a.map (mv5 dx dy)) (b.map (mv5 dx dy)) = cmpL a b
  | [], [] => rfl
  | [], _ :: _ => rfl
  | _ :: _, [] => rfl
  | a :: l, b :: r => by
    rw [List.map_cons, List.map_cons]
    unfold cmpL
    by_cases h : a = b
    · rw [if_pos h, if_pos (by rw [h])]; exact cmpL_mv dx dy l r
    · rw [if_neg h, if_neg (fun e => h (by
        obtain ⟨a1, a2, a3⟩ := a
        obtain ⟨b1, b2, b3⟩ := b
        unfold mv5 at e
        simp only [Prod.mk.injEq] at e ⊢
        omega)), cmpC_mv]
theorem sameL_cmp (a b : List (Int × Int × Int)) : sameL a b = (cmpL a b == 0) := by
  unfold sameL
  rw [Bool.eq_iff_iff, decide_eq_true_eq, beq_iff_eq, cmpL_zero]
end Go.Proofs.Ytenckggfgbkfnaa
end
section
namespace Go.Proofs.Ytenckggfgbkfnaa
open Go Go.RowKit
/-- The positions of two patterns in order, each with the cells that stand there. -/
def evL : List (Int × Int × Int) → List (Int × Int × Int) → List (Option (Int × Int × Int) × Option (Int × Int × Int))
  | [], b => b.map fun y => (none, some y)
  | x :: a, [] => (x :: a).map fun x => (some x, none)
  | x :: a, y :: b => if cBef x y = true then (some x, none) :: evL a (y :: b) else if cBef y x = true then (none, some y) :: evL (x :: a) b else (some x, some y) :: evL a b
termination_by a b => a.length + b.length
section
variable {a b : List (Int × Int × Int)} {x y : Int × Int × Int}
theorem evL_nil_left (b : List (Int × Int × Int)) : evL [] b = b.map fun y => (none, some y) := by rw [evL]
theorem evL_left (a : List (Int × Int × Int)) (x : Int × Int × Int) : evL (x :: a) [] = (some x, none) :: evL a [] := by
  cases a with
  | nil => rw [evL_nil_left, evL]; rfl
  | cons z a => rw [evL, evL]; rfl
theorem evL_right (b : List (Int × Int × Int)) (y : Int × Int × Int) : evL [] (y :: b) = (none, some y) :: evL [] b := by
  rw [evL_nil_left, evL_nil_left]; rfl
theorem evL_lt (h : cBef x y = true) : evL (x :: a) (y :: b) = (some x, none) :: evL a (y :: b) := by rw [evL, if_pos h]
theorem evL_gt (h : cBef y x = true) : evL (x :: a) (y :: b) = (none, some y) :: evL (x :: a) b := by
  rw [evL, if_neg (by rw [cBef_asym h]; simp), if_pos h]
theorem evL_eq (h1 : cBef x y = false) (h2 : cBef y x = false) : evL (x :: a) (y :: b) = (some x, some y) :: evL a b := by
  rw [evL, if_neg (by rw [h1]; simp), if_neg (by rw [h2]; simp)]
end
/-- Both cells stand at one position. -/
def atSame (x y : Int × Int × Int) : Prop := x.1 = y.1 ∧ x.2.1 = y.2.1
theorem same_of_not {x y : Int × Int × Int} (h1 : cBef x y = false) (h2 : cBef y x = false) : atSame x y := by
  unfold cBef befP at *; unfold atSame; simp only [decide_eq_false_iff_not] at *; omega
theorem not_of_same {x y : Int × Int × Int} (h : atSame x y) : cBef x y = false ∧ cBef y x = false := by
  unfold cBef befP atSame at *; simp only [decide_eq_false_iff_not]; omega
theorem bef_not_same {x y : Int × Int × Int} (h : cBef x y = true) : ¬ atSame x y := fun e => by rw [(not_of_same e).1] at h; cases h
theorem same_comm {x y : Int × Int × Int} : atSame x y ↔ atSame y x := by unfold atSame; omega
/-- What an event means. -/
def evOk (a b : List (Int × Int × Int)) : Option (Int × Int × Int) × Option (Int × Int × Int) → Prop
  | (some x, some y) => x ∈ a ∧ y ∈ b ∧ atSame x y
  | (some x, none) => x ∈ a ∧ ∀ y ∈ b, ¬ atSame x y
  | (none, some y) => y ∈ b ∧ ∀ x ∈ a, ¬ atSame x y
  | (none, none) => False
def evPos : Option (Int × Int × Int) × Option (Int × Int × Int) → Int × Int × Int
  | (some x, _) => x
  | (none, some y) => y
  | (none, none) => (0, 0, 0)
theorem ssc_cons {x : Int × Int × Int} {a : List (Int × Int × Int)} (h : SSC (x :: a)) : (∀ z ∈ a, cBef x z = true) ∧ SSC a := List.pairwise_cons.1 h
theorem evL_iff (a b : List (Int × Int × Int)) (ha : SSC a) (hb : SSC b) (e : Option (Int × Int × Int) × Option (Int × Int × Int)) : e ∈ evL a b ↔ evOk a b e := by
  induction a, b using evL.induct with
  | case1 b =>
    rw [evL_nil_left, List.mem_map]
    rcases e with ⟨_ | x, _ | y⟩ <;> simp [evOk]
  | case2 x a =>
    rw [evL]
    rw [List.mem_map]
    rcases e with ⟨_ | x', _ | y⟩ <;> simp [evOk]
  | case3 x a y b h ih =>
    obtain ⟨h1, h2⟩ := ssc_cons ha
    obtain ⟨h3, h4⟩ := ssc_cons hb
    rw [evL_lt h, List.mem_cons, ih h2 hb]
    have hx : ∀ z ∈ y :: b, ¬ atSame x z := fun z hz => by
      rcases List.mem_cons.1 hz with rfl | hm
      · exact bef_not_same h
      · exact bef_not_same (cBef_tr h (h3 z hm))
    rcases e with ⟨_ | x', _ | y'⟩
    · simp [evOk]
    · simp only [evOk, List.mem_cons, reduceCtorEq, Prod.mk.injEq, false_and, false_or, and_congr_right_iff]
      intro hy
      constructor
      · rintro hq z (rfl | hz)
        · exact hx y' (List.mem_cons.2 hy)
        · exact hq z hz
      · exact fun hq z hz => hq z (Or.inr hz)
    · simp only [evOk, Prod.mk.injEq, Option.some.injEq, and_true, List.mem_cons (a := x')]
      constructor
      · rintro (rfl | ⟨hm, hq⟩)
        · exact ⟨Or.inl rfl, hx⟩
        · exact ⟨Or.inr hm, hq⟩
      · rintro ⟨rfl | hm, hq⟩
        · exact Or.inl rfl
        · exact Or.inr ⟨hm, hq⟩
    · simp only [evOk, Prod.mk.injEq, reduceCtorEq, and_false, false_or, List.mem_cons (a := x')]
      constructor
      · rintro ⟨hm, hq⟩; exact ⟨Or.inr hm, hq⟩
      · rintro ⟨rfl | hm, hq, hs⟩
        · exact absurd hs (hx y' hq)
        · exact ⟨hm, hq, hs⟩
  | case4 x a y b h h' ih =>
    obtain ⟨h1, h2⟩ := ssc_cons ha
    obtain ⟨h3, h4⟩ := ssc_cons hb
    rw [evL_gt h', List.mem_cons, ih ha h4]
    have hy : ∀ z ∈ x :: a, ¬ atSame z y := fun z hz e => by
      rcases List.mem_cons.1 hz with rfl | hm
      · exact bef_not_same h' (same_comm.1 e)
      · exact bef_not_same (cBef_tr h' (h1 z hm)) (same_comm.1 e)
    rcases e with ⟨_ | x', _ | y'⟩
    · simp [evOk]
    · simp only [evOk, Prod.mk.injEq, Option.some.injEq, true_and, List.mem_cons (a := y')]
      constructor
      · rintro (rfl | ⟨hm, hq⟩)
        · exact ⟨Or.inl rfl, hy⟩
        · exact ⟨Or.inr hm, hq⟩
      · rintro ⟨rfl | hm, hq⟩
        · exact Or.inl rfl
        · exact Or.inr ⟨hm, hq⟩
    · simp only [evOk, Prod.mk.injEq, reduceCtorEq, false_and, false_or, and_congr_right_iff]
      intro hx
      constructor
      · intro hq z hz
        rcases List.mem_cons.1 hz with rfl | hm
        · exact hy x' hx
        · exact hq z hm
      · exact fun hq z hz => hq z (List.mem_cons.2 (Or.inr hz))
    · simp only [evOk, Prod.mk.injEq, reduceCtorEq, false_and, false_or, and_congr_right_iff, List.mem_cons (a := y')]
      intro hx
      constructor
      · rintro ⟨hm, hs⟩; exact ⟨Or.inr hm, hs⟩
      · rintro ⟨rfl | hm, hs⟩
        · exact absurd hs (hy x' hx)
        · exact ⟨hm, hs⟩
  | case5 x a y b h h' ih =>
    obtain ⟨h1, h2⟩ := ssc_cons ha
    obtain ⟨h3, h4⟩ := ssc_cons hb
    have h0 : cBef x y = false := by simpa using h
    have h0' : cBef y x = false := by simpa using h'
    have hs0 := same_of_not h0 h0'
    rw [evL_eq h0 h0', List.mem_cons, ih h2 h4]
    have hx : ∀ z ∈ b, ¬ atSame x z := fun z hz e => by
      have := bef_not_same (h3 z hz)
      unfold atSame at *; omega
    have hy : ∀ z ∈ a, ¬ atSame z y := fun z hz e => by
      have := bef_not_same (h1 z hz)
      unfold atSame at *; omega
    rcases e with ⟨_ | x', _ | y'⟩
    · simp [evOk]
    · simp only [evOk, Prod.mk.injEq, reduceCtorEq, false_and, false_or, List.mem_cons]
      constructor
      · rintro ⟨hm, hq⟩
        refine ⟨Or.inr hm, fun z hz => ?_⟩
        rcases hz with rfl | hz
        · exact hx y' hm
        · exact hq z hz
      · rintro ⟨rfl | hm, hq⟩
        · exact absurd hs0 (hq x (Or.inl rfl))
        · exact ⟨hm, fun z hz => hq z (Or.inr hz)⟩
    · simp only [evOk, Prod.mk.injEq, reduceCtorEq, and_false, false_or, List.mem_cons]
      constructor
      · rintro ⟨hm, hq⟩
        refine ⟨Or.inr hm, fun z hz => ?_⟩
        rcases hz with rfl | hz
        · exact hy x' hm
        · exact hq z hz
      · rintro ⟨rfl | hm, hq⟩
        · exact absurd hs0 (hq y (Or.inl rfl))
        · exact ⟨hm, fun z hz => hq z (Or.inr hz)⟩
    · simp only [evOk, Prod.mk.injEq, Option.some.injEq, List.mem_cons]
      constructor
      · rintro (⟨rfl, rfl⟩ | ⟨hm, hq, hs⟩)
        · exact ⟨Or.inl rfl, Or.inl rfl, hs0⟩
        · exact ⟨Or.inr hm, Or.inr hq, hs⟩
      · rintro ⟨rfl | hm, rfl | hq, hs⟩
        · exact Or.inl ⟨rfl, rfl⟩
        · exact absurd hs (hx y' hq)
        · exact absurd hs (hy x' hm)
        · exact Or.inr ⟨hm, hq, hs⟩
/-- The events stand in the order of their positions. -/
theorem evL_sorted (a b : List (Int × Int × Int)) (ha : SSC a) (hb : SSC b) : (evL a b).Pairwise fun e f => cBef (evPos e) (evPos f) = true := by
  have key : ∀ (a b : List (Int × Int × Int)) (z : Int × Int × Int), SSC a → SSC b → (∀ x ∈ a, cBef z x = true) → (∀ y ∈ b, cBef z y = true) → ∀ e ∈ evL a b, cBef z (evPos e) = true := fun a b z ha hb h1 h2 e he => by
    have := (evL_iff a b ha hb e).1 he
    rcases e with ⟨_ | x', _ | y'⟩
    · exact this.elim
    · exact h2 _ this.1
    · exact h1 _ this.1
    · exact h1 _ this.1
  have bs : ∀ {x y z : Int × Int × Int}, atSame x y → cBef y z = true → cBef x z = true := fun {x y z} e h => by
    unfold cBef befP atSame at *; simp only [decide_eq_true_eq] at *; omega
  induction a, b using evL.induct with
  | case1 b =>
    rw [evL_nil_left, List.pairwise_map]; exact hb
  | case2 x a =>
    rw [evL, List.pairwise_map]; exact ha
  | case3 x a y b h ih =>
    obtain ⟨h1, h2⟩ := ssc_cons ha
    rw [evL_lt h]
    refine List.pairwise_cons.2 ⟨key _ _ _ h2 hb h1 fun z hz => ?_, ih h2 hb⟩
    rcases List.mem_cons.1 hz with rfl | hm
    · exact h
    · exact cBef_tr h ((ssc_cons hb).1 z hm)
  | case4 x a y b h h' ih =>
    obtain ⟨h3, h4⟩ := ssc_cons hb
    rw [evL_gt h']
    refine List.pairwise_cons.2 ⟨key _ _ _ ha h4 (fun z hz => ?_) h3, ih ha h4⟩
    rcases List.mem_cons.1 hz with rfl | hm
    · exact h'
    · exact cBef_tr h' ((ssc_cons ha).1 z hm)
  | case5 x a y b h h' ih =>
    obtain ⟨h1, h2⟩ := ssc_cons ha
    obtain ⟨h3, h4⟩ := ssc_cons hb
    have h0 : cBef x y = false := by simpa using h
    have h0' : cBef y x = false := by simpa using h'
    rw [evL_eq h0 h0']
    exact List.pairwise_cons.2 ⟨key _ _ _ h2 h4 h1 fun z hz => bs (same_of_not h0 h0') (h3 z hz), ih h2 h4⟩
/-- What a visitor collects: 0: over, 1: both, 2: the first alone, 3: one alone. -/
def visL : Nat → Option (Int × Int × Int) × Option (Int × Int × Int) → List (Int × Int × Int)
  | 0, (some x, _) => [x]
  | 0, (none, some y) => [y]
  | 1, (some x, some _) => [x]
  | 2, (some x, none) => [x]
  | 3, (some x, none) => [x]
  | 3, (none, some y) => [y]
  | _, _ => []
def resL (k : Nat) (a b : List (Int × Int × Int)) : List (Int × Int × Int) := (evL a b).flatMap (visL k)
theorem visL_pos {k : Nat} {e : Option (Int × Int × Int) × Option (Int × Int × Int)} {z : Int × Int × Int} (h : z ∈ visL k e) : z = evPos e := by
  rcases k with _ | _ | _ | _ | k <;> rcases e with ⟨_ | x, _ | y⟩ <;> simp [visL] at h <;> rw [h] <;> rfl
theorem visL_one (k : Nat) (e : Option (Int × Int × Int) × Option (Int × Int × Int)) : (visL k e).length ≤ 1 := by
  rcases k with _ | _ | _ | _ | k <;> rcases e with ⟨_ | x, _ | y⟩ <;> simp [visL]
theorem ssc_flatMap (k : Nat) : ∀ (l : List (Option (Int × Int × Int) × Option (Int × Int × Int))), l.Pairwise (fun e f => cBef (evPos e) (evPos f) = true) → SSC (l.flatMap (visL k))
  | [], _ => by simp [SSC]
  | e :: l, h => by
    obtain ⟨h1, h2⟩ := List.pairwise_cons.1 h
    rw [List.flatMap_cons]
    refine List.pairwise_append.2 ⟨?_, ssc_flatMap k l h2, fun x hx y hy => ?_⟩
    · have := visL_one k e
      match hv : visL k e with
      | [] => exact List.Pairwise.nil
      | [z] => simp
      | z :: z' :: r => rw [hv] at this; simp at this
    · obtain ⟨f, hf, hy⟩ := List.mem_flatMap.1 hy
      rw [visL_pos hx, visL_pos hy]
      exact h1 f hf
theorem ssc_res {a b : List (Int × Int × Int)} (k : Nat) (ha : SSC a) (hb : SSC b) : SSC (resL k a b) := ssc_flatMap k _ (evL_sorted a b ha hb)
section
variable {a b : List (Int × Int × Int)} {z : Int × Int × Int}
theorem mem_res0 (ha : SSC a) (hb : SSC b) : z ∈ resL 0 a b ↔ z ∈ a ∨ (z ∈ b ∧ ∀ x ∈ a, ¬ atSame x z) := by
  unfold resL
  rw [List.mem_flatMap]
  constructor
  · rintro ⟨⟨_ | x, _ | y⟩, he, hz⟩ <;> have h := (evL_iff a b ha hb _).1 he <;> simp [visL] at hz
    · subst hz; exact Or.inr h
    · subst hz; exact Or.inl h.1
    · subst hz; exact Or.inl h.1
  · rintro (h | h)
    · by_cases hs : ∃ y ∈ b, atSame z y
      · obtain ⟨y, hy, e⟩ := hs
        exact ⟨(some z, some y), (evL_iff a b ha hb _).2 ⟨h, hy, e⟩, by simp [visL]⟩
      · exact ⟨(some z, none), (evL_iff a b ha hb _).2 ⟨h, fun y hy e => hs ⟨y, hy, e⟩⟩, by simp [visL]⟩
    · exact ⟨(none, some z), (evL_iff a b ha hb _).2 h, by simp [visL]⟩
theorem mem_res1 (ha : SSC a) (hb : SSC b) : z ∈ resL 1 a b ↔ z ∈ a ∧ ∃ y ∈ b, atSame z y := by
  unfold resL
  rw [List.mem_flatMap]
  constructor
  · rintro ⟨⟨_ | x, _ | y⟩, he, hz⟩ <;> have h := (evL_iff a b ha hb _).1 he <;> simp [visL] at hz
    subst hz; exact ⟨h.1, y, h.2.1, h.2.2⟩
  · rintro ⟨h, y, hy, e⟩
    exact ⟨(some z, some y), (evL_iff a b ha hb _).2 ⟨h, hy, e⟩, by simp [visL]⟩
theorem mem_res2 (ha : SSC a) (hb : SSC b) : z ∈ resL 2 a b ↔ z ∈ a ∧ ∀ y ∈ b, ¬ atSame z y := by
  unfold resL
  rw [List.mem_flatMap]
  constructor
  · rintro ⟨⟨_ | x, _ | y⟩, he, hz⟩ <;> have h := (evL_iff a b ha hb _).1 he <;> simp [visL] at hz
    subst hz; exact h
  · intro h
    exact ⟨(some z, none), (evL_iff a b ha hb _).2 h, by simp [visL]⟩
theorem mem_res3 (ha : SSC a) (hb : SSC b) : z ∈ resL 3 a b ↔ (z ∈ a ∧ ∀ y ∈ b, ¬ atSame z y) ∨ (z ∈ b ∧ ∀ x ∈ a, ¬ atSame x z) := by
  unfold resL
  rw [List.mem_flatMap]
  constructor
  · rintro ⟨⟨_ | x, _ | y⟩, he, hz⟩ <;> have h := (evL_iff a b ha hb _).1 he <;> simp [visL] at hz
    · subst hz; exact Or.inr h
    · subst hz; exact Or.inl h
  · rintro (h | h)
    · exact ⟨(some z, none), (evL_iff a b ha hb _).2 h, by simp [visL]⟩
    · exact ⟨(none, some z), (evL_iff a b ha hb _).2 h, by simp [visL]⟩
end
end Go.Proofs.Ytenckggfgbkfnaa
end
section
namespace Go.Proofs.Ytenckggfgbkfnaa
open Go Go.RowKit
/-- Two cells are at most d apart. -/
def nrD (d : Int) (a b : Int × Int × Int) : Bool := decide (a.1 - b.1 ≤ d ∧ b.1 - a.1 ≤ d ∧ a.2.1 - b.2.1 ≤ d ∧ b.2.1 - a.2.1 ≤ d)
theorem nrD_comm (d : Int) (a b : Int × Int × Int) : nrD d a b = nrD d b a := by
  unfold nrD; exact decide_eq_decide.2 (by omega)
/-- Cell k is reached from cell i by steps of at most d. -/
inductive Rch (l : List (Int × Int × Int)) (d : Int) : Nat → Nat → Prop
  | refl {i : Nat} : i < l.length → Rch l d i i
  | step {i j k : Nat} {a b : Int × Int × Int} : Rch l d i j → l[j]? = some a → l[k]? = some b → nrD d a b = true → Rch l d i k
section
variable {l : List (Int × Int × Int)} {d : Int} {i j k : Nat}
theorem lt_of_some {α : Type} {l : List α} {k : Nat} {b : α} (h : l[k]? = some b) : k < l.length := (List.getElem?_eq_some_iff.1 h).1
theorem Rch.right (h : Rch l d i j) : j < l.length := by
  cases h with
  | refl h => exact h
  | step _ _ h _ => exact lt_of_some h
theorem Rch.left (h : Rch l d i j) : i < l.length := by
  induction h with
  | refl h => exact h
  | step _ _ _ _ ih => exact ih
theorem Rch.trans (h : Rch l d i j) (g : Rch l d j k) : Rch l d i k := by
  induction g with
  | refl _ => exact h
  | step _ h1 h2 h3 ih => exact .step ih h1 h2 h3
theorem Rch.one {a b : Int × Int × Int} (ha : l[i]? = some a) (hb : l[j]? = some b) (h : nrD d a b = true) : Rch l d i j := .step (.refl (lt_of_some ha)) ha hb h
theorem Rch.symm (h : Rch l d i j) : Rch l d j i := by
  induction h with
  | refl h => exact .refl h
  | step _ h1 h2 h3 ih => exact (Rch.one h2 h1 (by rw [nrD_comm]; exact h3)).trans ih
noncomputable def rchB (l : List (Int × Int × Int)) (d : Int) (i j : Nat) : Bool := @decide (Rch l d i j) (Classical.propDecidable _)
theorem rchB_iff : rchB l d i j = true ↔ Rch l d i j := by unfold rchB; exact @decide_eq_true_iff _ (Classical.propDecidable _)
/-- The first cell of a cell's part. -/
noncomputable def gpI (l : List (Int × Int × Int)) (d : Int) (i : Nat) : Nat := ((List.range l.length).find? (rchB l d i)).getD i
theorem find_range {p : Nat → Bool} {n i : Nat} (hi : i < n) (h : p i = true) : ∃ j, (List.range n).find? p = some j ∧ p j = true ∧ ∀ k, p k = true → k < n → j ≤ k := by
  cases hf : (List.range n).find? p with
  | none =>
    have := List.find?_eq_none.1 hf i (by simpa using hi)
    exact absurd h this
  | some j =>
    refine ⟨j, rfl, List.find?_some hf, fun k hk hkn => ?_⟩
    obtain ⟨_, m, hm, hmj, hall⟩ := List.find?_eq_some_iff_getElem.1 hf
    simp only [List.getElem_range] at hmj hall
    subst hmj
    rcases Nat.lt_or_ge k m with hlt | hge
    · have := hall k hlt
      rw [hk] at this
      cases this
    · exact hge
theorem gpI_spec (hi : i < l.length) : Rch l d i (gpI l d i) ∧ ∀ k, Rch l d i k → gpI l d i ≤ k := by
  obtain ⟨j, h1, h2, h3⟩ := find_range (p := rchB l d i) hi (rchB_iff.2 (Rch.refl hi))
  have e : gpI l d i = j := by unfold gpI; rw [h1]; rfl
  rw [e]
  exact ⟨rchB_iff.1 h2, fun k hk => h3 k (rchB_iff.2 hk) hk.right⟩
theorem gpI_le (hi : i < l.length) : gpI l d i ≤ i := (gpI_spec hi).2 i (.refl hi)
theorem gpI_eq (h : Rch l d i j) : gpI l d i = gpI l d j := by
  have hi := h.left
  have hj := h.right
  have h1 := (gpI_spec hi).2 _ (h.trans (gpI_spec hj).1)
  have h2 := (gpI_spec hj).2 _ (h.symm.trans (gpI_spec hi).1)
  omega
theorem gpI_idem (hi : i < l.length) : gpI l d (gpI l d i) = gpI l d i := (gpI_eq (gpI_spec hi).1).symm
theorem gpI_rch (hi : i < l.length) (hj : j < l.length) (h : gpI l d i = gpI l d j) : Rch l d i j := (gpI_spec hi).1.trans (by rw [h]; exact (gpI_spec hj).1.symm)
/-- A function that is not above, reached, and alike at cells that are near, is the first cell of the part. -/
theorem gpI_of {g : Nat → Nat} (h1 : ∀ i, i < l.length → g i ≤ i ∧ Rch l d i (g i)) (h2 : ∀ i k a b, l[i]? = some a → l[k]? = some b → nrD d a b = true → g i ≤ g k) : ∀ i, i < l.length → g i = gpI l d i := by
  have hc : ∀ i j, Rch l d i j → g i = g j := by
    intro i j h
    induction h with
    | refl _ => rfl
    | step _ ha hb hn ih =>
      have a1 := h2 _ _ _ _ ha hb hn
      have a2 := h2 _ _ _ _ hb ha (by rw [nrD_comm]; exact hn)
      omega
  intro i hi
  have a1 := (gpI_spec (d := d) hi).2 _ (h1 i hi).2
  have a2 := hc _ _ (gpI_spec (d := d) hi).1
  have a3 := (h1 _ (gpI_spec (d := d) hi).1.right).1
  omega
end
/-- The elements at the first m indices that a test takes. -/
def selN {α : Type} (l : List α) (p : Nat → Bool) (m : Nat) : List α := (List.range m).filterMap fun k => if p k = true then l[k]? else none
theorem selN_step {α : Type} {l : List α} {p : Nat → Bool} {m : Nat} {a : α} (h : l[m]? = some a) : selN l p (m + 1) = selN l p m ++ (if p m = true then [a] else []) := by
  unfold selN
  rw [List.range_succ, List.filterMap_append]
  congr 1
  by_cases hp : p m = true
  · simp [hp, h]
  · simp [hp]
theorem selN_mem {α : Type} {l : List α} {p : Nat → Bool} {m : Nat} {a : α} : a ∈ selN l p m ↔ ∃ k, k < m ∧ p k = true ∧ l[k]? = some a := by
  unfold selN
  rw [List.mem_filterMap]
  constructor
  · rintro ⟨k, hk, h⟩
    by_cases hp : p k = true
    · rw [if_pos hp] at h; exact ⟨k, by simpa using hk, hp, h⟩
    · rw [if_neg hp] at h; cases h
  · rintro ⟨k, hk, hp, h⟩
    exact ⟨k, by simpa using hk, by rw [if_pos hp]; exact h⟩
theorem selN_congr {α : Type} {l : List α} {p q : Nat → Bool} {m : Nat} (h : ∀ k, k < m → p k = q k) : selN l p m = selN l q m := by
  induction m with
  | zero => rfl
  | succ m ih =>
    have h0 := ih (fun k hk => h k (by omega))
    unfold selN at h0 ⊢
    rw [List.range_succ, List.filterMap_append, List.filterMap_append, h0]
    congr 1
    simp only [List.filterMap_cons, List.filterMap_nil, h m (by omega)]
theorem selN_sub {α : Type} {l : List α} {p : Nat → Bool} : ∀ {m : Nat}, m ≤ l.length → (selN l p m).Sublist (l.take m)
  | 0, _ => by simp [selN]
  | m + 1, hm => by
    have ha : l[m]? = some l[m] := List.getElem?_eq_getElem (by omega)
    rw [selN_step ha, List.take_add_one, ha]
    refine List.Sublist.append (selN_sub (by omega)) ?_
    split
    · exact List.Sublist.refl _
    · simp
/-- The part whose first cell is the i-th cell. -/
noncomputable def prt (l : List (Int × Int × Int)) (d : Int) (i : Nat) : List (Int × Int × Int) := selN l (fun k => gpI l d k == i) l.length
noncomputable def prtsN (l : List (Int × Int × Int)) (d : Int) (m : Nat) : List (List (Int × Int × Int)) := (List.range m).flatMap fun i => if gpI l d i = i then [prt l d i] else []
noncomputable def prtsL (l : List (Int × Int × Int)) (d : Int) : List (List (Int × Int × Int)) := if rightC l = true ∧ 1 ≤ d ∧ d ≤ 8 then prtsN l d l.length else []
def prtsE (l : List (Int × Int × Int)) (d : Int) : Int := if rightC l = true ∧ 1 ≤ d ∧ d ≤ 8 then 0 else 2
theorem prtsN_step {l : List (Int × Int × Int)} {d : Int} {m : Nat} : prtsN l d (m + 1) = prtsN l d m ++ (if gpI l d m = m then [prt l d m] else []) := by
  unfold prtsN
  rw [List.range_succ, List.flatMap_append]
  simp
theorem prt_none {l : List (Int × Int × Int)} {d : Int} {i : Nat} (hi : i < l.length) (h : gpI l d i ≠ i) : prt l d i = [] := by
  rw [List.eq_nil_iff_forall_not_mem]
  intro a ha
  obtain ⟨k, hk, hp, _⟩ := selN_mem.1 ha
  have : gpI l d k = i := by simpa using hp
  exact h (by rw [← this]; exact gpI_idem hk)
theorem prt_some {l : List (Int × Int × Int)} {d : Int} {i : Nat} (hi : i < l.length) (h : gpI l d i = i) : prt l d i ≠ [] := by
  refine List.ne_nil_of_mem (a := l[i]) (selN_mem.2 ⟨i, hi, by simpa using h, List.getElem?_eq_getElem hi⟩)
theorem prt_ssc {l : List (Int × Int × Int)} {d : Int} {i : Nat} (h : SSC l) : SSC (prt l d i) := by
  have hs := selN_sub (l := l) (p := fun k => gpI l d k == i) (Nat.le_refl l.length)
  rw [List.take_of_length_le (Nat.le_refl _)] at hs
  exact List.Pairwise.sublist hs h
/-- The index of the cell at a position. -/
def posI (l : List (Int × Int × Int)) (x y : Int) : Option Nat := l.findIdx? fun c => decide (c.1 = x ∧ c.2.1 = y)
theorem ssc_pos {l : List (Int × Int × Int)} (h : SSC l) {i j : Nat} {x y s t : Int} (hi : l[i]? = some (x, y, s)) (hj : l[j]? = some (x, y, t)) : i = j := by
  have key : ∀ {i j : Nat} {s t : Int}, i < j → l[i]? = some (x, y, s) → l[j]? = some (x, y, t) → False := by
    intro i j s t hij hi hj
    obtain ⟨h1, e1⟩ := List.getElem?_eq_some_iff.1 hi
    obtain ⟨h2, e2⟩ := List.getElem?_eq_some_iff.1 hj
    have := List.pairwise_iff_getElem.1 h i j h1 h2 hij
    rw [e1, e2] at this
    unfold cBef befP at this
    simp only [decide_eq_true_eq] at this
    omega
  rcases Nat.lt_trichotomy i j with h1 | h1 | h1
  · exact (key h1 hi hj).elim
  · exact h1
  · exact (key h1 hj hi).elim
theorem posI_at {l : List (Int × Int × Int)} (h : SSC l) {i : Nat} {x y s : Int} (hi : l[i]? = some (x, y, s)) : posI l x y = some i := by
  obtain ⟨h1, e1⟩ := List.getElem?_eq_some_iff.1 hi
  unfold posI
  rw [List.findIdx?_eq_some_iff_getElem]
  refine ⟨h1, by rw [e1]; simp, fun j hj => ?_⟩
  simp only [decide_eq_true_eq]
  rintro ⟨e2, e3⟩
  have hjl : j < l.length := by omega
  have : l[j]? = some (x, y, l[j].2.2) := by rw [List.getElem?_eq_getElem hjl, ← e2, ← e3]
  have := ssc_pos h this hi
  omega
theorem posI_some {l : List (Int × Int × Int)} {x y : Int} {i : Nat} (h : posI l x y = some i) : ∃ s, l[i]? = some (x, y, s) := by
  unfold posI at h
  rw [List.findIdx?_eq_some_iff_getElem] at h
  obtain ⟨h1, h2, _⟩ := h
  simp only [decide_eq_true_eq] at h2
  exact ⟨l[i].2.2, by rw [List.getElem?_eq_getElem h1, ← h2.1, ← h2.2]⟩
/-- What is left of a map from positions to indices: the cells of parts from the i-th on, but for some. -/
noncomputable def leftF (l : List (Int × Int × Int)) (d : Int) (i : Nat) (Q : List Nat) : Int → Int → Option Int := fun x y => match posI l x y with
  | none => none
  | some m => if i ≤ gpI l d m ∧ m ∉ Q then some (m : Int) else none
theorem leftF_at {l : List (Int × Int × Int)} {d : Int} (h : SSC l) {i : Nat} {Q : List Nat} {m : Nat} {x y s : Int} (hm : l[m]? = some (x, y, s)) : leftF l d i Q x y = if i ≤ gpI l d m ∧ m ∉ Q then some (m : Int) else none := by
  unfold leftF; rw [posI_at h hm]
theorem leftF_some {l : List (Int × Int × Int)} {d : Int} {i : Nat} {Q : List Nat} {x y v : Int} (h : leftF l d i Q x y = some v) : ∃ (m : Nat) (s : Int), v = m ∧ l[m]? = some (x, y, s) ∧ i ≤ gpI l d m ∧ m ∉ Q := by
  unfold leftF at h
  cases hp : posI l x y with
  | none => rw [hp] at h; cases h
  | some m =>
    rw [hp] at h
    simp only at h
    split at h
    · rename_i hc
      injection h with h
      obtain ⟨s, hs⟩ := posI_some hp
      exact ⟨m, s, h.symm, hs, hc.1, hc.2⟩
    · cases h
end Go.Proofs.Ytenckggfgbkfnaa
end
section
namespace Go.Proofs.Ytenckggfgbkfnaa
open Go Go.RowKit
/-- Each number is an index that is reached, and not above. -/
def grpOk (l : List (Int × Int × Int)) (d : Int) (gl : List Int) : Prop := gl.length = l.length ∧ ∀ (i : Nat) (x : Int), gl[i]? = some x → ∃ m : Nat, x = m ∧ m ≤ i ∧ Rch l d i m
def sumN (gl : List Int) : Nat := (gl.map Int.toNat).sum
/-- The scan has come to cell k against cell i: gl0 as the round began, gl as it stands, b: something has changed. -/
def Scan (l : List (Int × Int × Int)) (d : Int) (gl0 gl : List Int) (b : Bool) (i k : Nat) : Prop :=
  grpOk l d gl ∧ (b = true → sumN gl < sumN gl0) ∧ (b = false → gl = gl0 ∧ ∀ (i' k' : Nat) (x y : Int) (a c : Int × Int × Int), (i' < i ∨ i' = i ∧ k' < k) → gl[i']? = some x → gl[k']? = some y → l[i']? = some a → l[k']? = some c → nrD d a c = true → ¬ y < x)
section
variable {l : List (Int × Int × Int)} {d : Int} {gl0 gl : List Int} {b : Bool} {i k : Nat}
theorem grpOk_start (gl : List Int) (h1 : gl.length = l.length) (h2 : ∀ (i : Nat) (x : Int), gl[i]? = some x → x = i) : grpOk l d gl :=
  ⟨h1, fun i x hx => ⟨i, h2 i x hx, Nat.le_refl _, .refl (by rw [← h1]; exact lt_of_some hx)⟩⟩
theorem Scan.start (h : grpOk l d gl) : Scan l d gl gl false 0 0 := ⟨h, fun h => (by cases h), fun _ => ⟨rfl, fun i' k' x y a c hlt => by omega⟩⟩
theorem sum_set : ∀ (gl : List Int) (i : Nat) (x y : Int), gl[i]? = some x → 0 ≤ y → y < x → sumN (gl.set i y) < sumN gl
  | [], i, x, y, h, _, _ => by simp at h
  | z :: gl, 0, x, y, h, h0, h1 => by
    have e : z = x := by simpa using h
    subst e
    simp only [sumN, List.set_cons_zero, List.map_cons, List.sum_cons]
    omega
  | z :: gl, i + 1, x, y, h, h0, h1 => by
    have := sum_set gl i x y (by simpa using h) h0 h1
    simp only [sumN, List.set_cons_succ, List.map_cons, List.sum_cons] at this ⊢
    omega
theorem Scan.change {x y : Int} {a c : Int × Int × Int} (h : Scan l d gl0 gl b i k) (hx : gl[i]? = some x) (hy : gl[k]? = some y) (ha : l[i]? = some a) (hc : l[k]? = some c) (hn : nrD d a c = true) (hlt : y < x) : Scan l d gl0 (gl.set i y) true i (k + 1) := by
  obtain ⟨⟨h1, h2⟩, h3, h4⟩ := h
  obtain ⟨m, hm, hmk, hr⟩ := h2 k y hy
  obtain ⟨p, hp, hpi, _⟩ := h2 i x hx
  have hs := sum_set gl i x y hx (by omega) hlt
  refine ⟨⟨by simp [h1], fun j z hz => ?_⟩, fun _ => ?_, fun h => (by cases h)⟩
  · rw [List.getElem?_set] at hz
    by_cases e : i = j
    · subst e
      rw [if_pos rfl, if_pos (lt_of_some hx)] at hz
      injection hz with hz
      subst hz
      exact ⟨m, hm, by omega, (Rch.one ha hc hn).trans hr⟩
    · rw [if_neg e] at hz
      exact h2 j z hz
  · cases hb : b with
    | true => have := h3 hb; omega
    | false => obtain ⟨e, _⟩ := h4 hb; rw [← e]; exact hs
theorem Scan.stay {x y : Int} {a c : Int × Int × Int} (h : Scan l d gl0 gl b i k) (hx : gl[i]? = some x) (hy : gl[k]? = some y) (ha : l[i]? = some a) (hc : l[k]? = some c) (hn : ¬ (y < x ∧ nrD d a c = true)) : Scan l d gl0 gl b i (k + 1) := by
  refine ⟨h.1, h.2.1, fun hb => ⟨(h.2.2 hb).1, fun i' k' x' y' a' c' hlt g1 g2 g3 g4 g5 => ?_⟩⟩
  by_cases e : i' = i ∧ k' = k
  · obtain ⟨rfl, rfl⟩ := e
    rw [hx] at g1; rw [hy] at g2; rw [ha] at g3; rw [hc] at g4
    injection g1 with g1; injection g2 with g2; injection g3 with g3; injection g4 with g4
    subst g1 g2 g3 g4
    exact fun hl => hn ⟨hl, g5⟩
  · exact (h.2.2 hb).2 i' k' x' y' a' c' (by omega) g1 g2 g3 g4 g5
theorem Scan.row (h : Scan l d gl0 gl b i l.length) : Scan l d gl0 gl b (i + 1) 0 := by
  refine ⟨h.1, h.2.1, fun hb => ⟨(h.2.2 hb).1, fun i' k' x' y' a' c' hlt g1 g2 g3 g4 g5 => ?_⟩⟩
  have := lt_of_some g4
  exact (h.2.2 hb).2 i' k' x' y' a' c' (by omega) g1 g2 g3 g4 g5
/-- Nothing changed in a whole round: the numbers are the parts' first cells. -/
theorem Scan.done (h : Scan l d gl0 gl false l.length 0) : ∀ (i : Nat) (x : Int), gl[i]? = some x → x = (gpI l d i : Nat) := by
  obtain ⟨⟨h1, h2⟩, _, h4⟩ := h
  obtain ⟨_, h5⟩ := h4 rfl
  have hg : ∀ i, i < l.length → (((gl[i]?).getD 0).toNat) = gpI l d i := by
    refine gpI_of (fun i hi => ?_) (fun i k a c ha hc hn => ?_)
    · have hx : gl[i]? = some gl[i] := List.getElem?_eq_getElem (by omega)
      obtain ⟨m, hm, hmi, hr⟩ := h2 i _ hx
      rw [hx]
      simp only [Option.getD_some, hm, Int.toNat_natCast]
      exact ⟨hmi, hr⟩
    · have hi := lt_of_some ha
      have hk := lt_of_some hc
      have hx : gl[i]? = some gl[i] := List.getElem?_eq_getElem (by omega)
      have hy : gl[k]? = some gl[k] := List.getElem?_eq_getElem (by omega)
      have := h5 i k _ _ a c (Or.inl hi) hx hy ha hc hn
      rw [hx, hy]
      simp only [Option.getD_some]
      omega
  intro i x hx
  have hi : i < l.length := by rw [← h1]; exact lt_of_some hx
  have := hg i hi
  rw [hx] at this
  obtain ⟨m, hm, _⟩ := h2 i x hx
  simp only [Option.getD_some] at this
  omega
end
theorem prtsE_bad {l : List (Int × Int × Int)} {d : Int} (h : ¬ (rightC l = true ∧ 1 ≤ d ∧ d ≤ 8)) : prtsE l d = 2 ∧ prtsL l d = [] := by unfold prtsE prtsL; rw [if_neg h, if_neg h]; exact ⟨rfl, rfl⟩
theorem prtsE_ok {l : List (Int × Int × Int)} {d : Int} (h : rightC l = true ∧ 1 ≤ d ∧ d ≤ 8) : prtsE l d = 0 ∧ prtsL l d = prtsN l d l.length := by unfold prtsE prtsL; rw [if_pos h, if_pos h]; exact ⟨rfl, rfl⟩
theorem prt_len {l : List (Int × Int × Int)} {d : Int} {i : Nat} : (prt l d i).length ≤ l.length := by
  have hs := selN_sub (l := l) (p := fun k => gpI l d k == i) (Nat.le_refl l.length)
  rw [List.take_of_length_le (Nat.le_refl _)] at hs
  exact hs.length_le
end Go.Proofs.Ytenckggfgbkfnaa
end
section
namespace Go.Proofs.Ytenckggfgbkfnaa
open Go Go.RowKit
/-- The functions with another entry; without one (MapP's, told again without the program). -/
def putF2 (f : Int → Int → Option Int) (x y v : Int) : Int → Int → Option Int := fun a b => if a = x ∧ b = y then some v else f a b
def delF2 (f : Int → Int → Option Int) (x y : Int) : Int → Int → Option Int := fun a b => if a = x ∧ b = y then none else f a b
/-- The first j cells' indices by position. -/
def idxF (l : List (Int × Int × Int)) (j : Nat) : Int → Int → Option Int := fun x y => match posI l x y with
  | none => none
  | some m => if m < j then some (m : Int) else none
/-- The cells at some indices. -/
def cellsQ (l : List (Int × Int × Int)) (Q : List Nat) : List (Int × Int × Int) := Q.map fun m => (l[m]?).getD (0, 0, 0)
theorem cellsQ_at {l : List (Int × Int × Int)} {Q : List Nat} {k q : Nat} {a : Int × Int × Int} (hq : Q[k]? = some q) (ha : l[q]? = some a) : (cellsQ l Q)[k]? = some a := by
  unfold cellsQ; rw [List.getElem?_map, hq]; simp [ha]
/-- The flood from the i-th cell: Q are the indices that it has met; the first k of them are seen to. -/
structure Flood (l : List (Int × Int × Int)) (d : Int) (i : Nat) (Q : List Nat) (k : Nat) : Prop where
  nd : Q.Nodup
  mem : ∀ m ∈ Q, m < l.length ∧ gpI l d m = i
  base : i ∈ Q
  seen : ∀ j, j < k → ∀ (q m : Nat) (a b : Int × Int × Int), Q[j]? = some q → l[q]? = some a → l[m]? = some b → nrD d a b = true → m ∈ Q
/-- The k-th of them is being looked around: rows below y, and the row y up to x, are done. -/
def FloodX (l : List (Int × Int × Int)) (d : Int) (i : Nat) (Q : List Nat) (k : Nat) (y x : Int) : Prop := Flood l d i Q k ∧ k < Q.length ∧
  ∀ (q m : Nat) (a b : Int × Int × Int), Q[k]? = some q → l[q]? = some a → l[m]? = some b → nrD d a b = true → (b.2.1 - a.2.1 < y ∨ (b.2.1 - a.2.1 = y ∧ b.1 - a.1 < x)) → m ∈ Q
section
variable {l : List (Int × Int × Int)} {d : Int} {i k m : Nat} {Q : List Nat} {x y : Int}
theorem idxF_start : idxF l 0 = fun _ _ => none := by
  funext x y; unfold idxF; cases posI l x y with
  | none => rfl
  | some m => simp
theorem idxF_end {n : Nat} (hn : l.length = n) : idxF l n = leftF l d 0 [] := by
  subst hn
  funext x y; unfold idxF leftF
  cases h : posI l x y with
  | none => rfl
  | some m =>
    obtain ⟨s, hs⟩ := posI_some h
    have := lt_of_some hs
    simp [this]
theorem leftF_next (h : gpI l d i ≠ i) : leftF l d (i + 1) [] = leftF l d i [] := by
  funext x y; unfold leftF
  cases hp : posI l x y with
  | none => rfl
  | some m =>
    obtain ⟨s, hs⟩ := posI_some hp
    have hm := lt_of_some hs
    have : gpI l d m ≠ i := fun e => h (by rw [← e]; exact gpI_idem hm)
    have e2 : (i + 1 ≤ gpI l d m ∧ m ∉ ([] : List Nat)) ↔ (i ≤ gpI l d m ∧ m ∉ ([] : List Nat)) := by simp; omega
    simp only [e2]
theorem Flood.start (hi : i < l.length) (h : gpI l d i = i) : Flood l d i [i] 0 :=
  ⟨by simp, by intro m hm; obtain rfl : m = i := by simpa using hm
               exact ⟨hi, h⟩, by simp, fun j hj => absurd hj (by omega)⟩
theorem Flood.enter (h : Flood l d i Q k) (hk : k < Q.length) : FloodX l d i Q k (-d) (-d) := by
  refine ⟨h, hk, fun q m a b _ _ _ hn hc => ?_⟩
  unfold nrD at hn
  simp only [decide_eq_true_eq] at hn
  omega
theorem FloodX.at_ (h : FloodX l d i Q k y x) : ∃ q a, Q[k]? = some q ∧ l[q]? = some a ∧ gpI l d q = i := by
  obtain ⟨hf, hk, _⟩ := h
  have hq : Q[k]? = some Q[k] := List.getElem?_eq_getElem hk
  obtain ⟨h1, h2⟩ := hf.mem _ (List.mem_of_getElem? hq)
  exact ⟨Q[k], l[Q[k]], hq, List.getElem?_eq_getElem h1, h2⟩
/-- Nothing is left at the place looked at. -/
theorem FloodX.none_ {q : Nat} {ax ay as : Int} (hl : SSC l) (h : FloodX l d i Q k y x) (hq : Q[k]? = some q) (ha : l[q]? = some (ax, ay, as)) (hn : leftF l d i Q (ax + x) (ay + y) = none) : FloodX l d i Q k y (x + 1) := by
  refine ⟨h.1, h.2.1, fun q' m a b hq' ha' hb hnr hc => ?_⟩
  rw [hq] at hq'; injection hq' with hq'; subst hq'
  rw [ha] at ha'; injection ha' with ha'; subst ha'
  simp only at hc
  by_cases hc0 : b.2.1 - ay < y ∨ (b.2.1 - ay = y ∧ b.1 - ax < x)
  · exact h.2.2 q m _ b hq ha hb hnr hc0
  · have hb' : l[m]? = some (ax + x, ay + y, b.2.2) := by
      rw [hb]; congr 1
      have e1 : b.1 = ax + x := by omega
      have e2 : b.2.1 = ay + y := by omega
      rw [← e1, ← e2]
    rw [leftF_at hl hb'] at hn
    have hg : gpI l d m = i := by
      rw [← (h.1.mem q (List.mem_of_getElem? hq)).2]
      exact (gpI_eq (Rch.one ha hb hnr)).symm
    by_cases hm : m ∈ Q
    · exact hm
    · rw [if_pos ⟨by omega, hm⟩] at hn; cases hn
/-- Something is left there. -/
theorem FloodX.some_ {q : Nat} {ax ay as s : Int} (hl : SSC l) (h : FloodX l d i Q k y x) (hx : -d ≤ x ∧ x ≤ d) (hy : -d ≤ y ∧ y ≤ d) (hq : Q[k]? = some q) (ha : l[q]? = some (ax, ay, as)) (hb : l[m]? = some (ax + x, ay + y, s)) (hm : m ∉ Q) : FloodX l d i (Q ++ [m]) k y (x + 1) := by
  have hnr : nrD d (ax, ay, as) (ax + x, ay + y, s) = true := by unfold nrD; simp only [decide_eq_true_eq]; omega
  have hg : gpI l d m = i := by
    rw [← (h.1.mem q (List.mem_of_getElem? hq)).2]
    exact (gpI_eq (Rch.one ha hb hnr)).symm
  have get : ∀ j, j < Q.length → (Q ++ [m])[j]? = Q[j]? := fun j hj => List.getElem?_append_left hj
  refine ⟨⟨?_, ?_, by simp [h.1.base], fun j hj q' m' a b h1 h2 h3 h4 => ?_⟩, by simp; have := h.2.1; omega, fun q' m' a b h1 h2 h3 h4 h5 => ?_⟩
  · rw [List.nodup_append]
    refine ⟨h.1.nd, by simp, fun a ha' b hb' e => ?_⟩
    obtain rfl : b = m := by simpa using hb'
    exact hm (by rw [← e]; exact ha')
  · intro m' hm'
    rcases List.mem_append.1 hm' with h' | h'
    · exact h.1.mem m' h'
    · obtain rfl : m' = m := by simpa using h'
      exact ⟨lt_of_some hb, hg⟩
  · rw [get j (by have := h.2.1; omega)] at h1
    exact List.mem_append_left _ (h.1.seen j hj q' m' a b h1 h2 h3 h4)
  · rw [get k h.2.1] at h1
    rw [hq] at h1; injection h1 with h1; subst h1
    rw [ha] at h2; injection h2 with h2; subst h2
    simp only at h5
    by_cases hc0 : b.2.1 - ay < y ∨ (b.2.1 - ay = y ∧ b.1 - ax < x)
    · exact List.mem_append_left _ (h.2.2 q m' _ b hq ha h3 h4 hc0)
    · have hb' : l[m']? = some (ax + x, ay + y, b.2.2) := by
        rw [h3]; congr 1
        have e1 : b.1 = ax + x := by omega
        have e2 : b.2.1 = ay + y := by omega
        rw [← e1, ← e2]
      rw [ssc_pos hl hb' hb]
      simp
theorem FloodX.row (h : FloodX l d i Q k y (d + 1)) : FloodX l d i Q k (y + 1) (-d) := by
  refine ⟨h.1, h.2.1, fun q m a b h1 h2 h3 h4 hc => h.2.2 q m a b h1 h2 h3 h4 ?_⟩
  unfold nrD at h4
  simp only [decide_eq_true_eq] at h4
  omega
theorem FloodX.leave {z : Int} (h : FloodX l d i Q k (d + 1) z) : Flood l d i Q (k + 1) := by
  refine ⟨h.1.nd, h.1.mem, h.1.base, fun j hj q m a b h1 h2 h3 h4 => ?_⟩
  by_cases e : j = k
  · subst e
    refine h.2.2 q m a b h1 h2 h3 h4 ?_
    unfold nrD at h4
    simp only [decide_eq_true_eq] at h4
    omega
  · exact h.1.seen j (by omega) q m a b h1 h2 h3 h4
theorem nodup_lenN : ∀ (n : Nat) (Q : List Nat), Q.Nodup → (∀ m ∈ Q, m < n) → Q.length ≤ n
  | 0, Q, _, h => by
    cases Q with
    | nil => simp
    | cons a Q => exact absurd (h a (by simp)) (by omega)
  | n + 1, Q, hn, h => by
    have ih := nodup_lenN n (Q.erase n) (hn.erase n) (fun m hm => by
      have := (List.Nodup.mem_erase_iff hn).1 hm
      have := h m this.2
      omega)
    have := List.length_erase (a := n) (l := Q)
    split at this <;> omega
theorem Flood.len (h : Flood l d i Q k) : Q.length ≤ l.length := nodup_lenN _ _ h.nd fun m hm => (h.mem m hm).1
theorem Flood.all (h : Flood l d i Q Q.length) (m : Nat) : m ∈ Q ↔ m < l.length ∧ gpI l d m = i := by
  refine ⟨h.mem m, fun ⟨h1, h2⟩ => ?_⟩
  obtain ⟨h3, h4⟩ := h.mem i h.base
  have key : ∀ r, Rch l d i r → r ∈ Q := by
    intro r hr
    induction hr with
    | refl _ => exact h.base
    | step _ ha hb hn ih =>
      obtain ⟨j, hj, e⟩ := List.getElem_of_mem ih
      exact h.seen j hj _ _ _ _ (by rw [List.getElem?_eq_getElem hj, e]) ha hb hn
  exact key m (gpI_rch h3 h1 (by rw [h4, h2]))
theorem Flood.left (h : Flood l d i Q Q.length) : leftF l d i Q = leftF l d (i + 1) [] := by
  funext x y; unfold leftF
  cases hp : posI l x y with
  | none => rfl
  | some m =>
    obtain ⟨s, hs⟩ := posI_some hp
    have hm := lt_of_some hs
    have e2 : (i ≤ gpI l d m ∧ m ∉ Q) ↔ (i + 1 ≤ gpI l d m ∧ m ∉ ([] : List Nat)) := by
      rw [h.all m]
      simp
      omega
    simp only [e2]
theorem leftF_del (hl : SSC l) {s : Int} (hm : l[m]? = some (x, y, s)) : delF2 (leftF l d i Q) x y = leftF l d i (Q ++ [m]) := by
  funext a b
  unfold delF2
  by_cases e : a = x ∧ b = y
  · rw [if_pos e, e.1, e.2, leftF_at hl hm, if_neg (by simp)]
  · rw [if_neg e]
    unfold leftF
    cases hp : posI l a b with
    | none => rfl
    | some r =>
      obtain ⟨t, ht⟩ := posI_some hp
      have hne : r ≠ m := fun h => e (by subst h; rw [hm] at ht; injection ht with ht; injection ht with h1 h2; injection h2 with h2 _; exact ⟨h1.symm, h2.symm⟩)
      have e2 : (i ≤ gpI l d r ∧ r ∉ Q) ↔ (i ≤ gpI l d r ∧ r ∉ Q ++ [m]) := by simp [hne]
      simp only [e2]
theorem idxF_put (hl : SSC l) {j : Nat} {s : Int} (hj : l[j]? = some (x, y, s)) : putF2 (idxF l j) x y j = idxF l (j + 1) := by
  funext a b
  unfold putF2
  by_cases e : a = x ∧ b = y
  · rw [if_pos e, e.1, e.2]
    unfold idxF
    rw [posI_at hl hj]
    simp
  · rw [if_neg e]
    unfold idxF
    cases hp : posI l a b with
    | none => rfl
    | some r =>
      obtain ⟨t, ht⟩ := posI_some hp
      have hne : r ≠ j := fun h => e (by subst h; rw [hj] at ht; injection ht with ht; injection ht with h1 h2; injection h2 with h2 _; exact ⟨h1.symm, h2.symm⟩)
      have e2 : r < j ↔ r < j + 1 := by omega
      simp only [e2]
theorem cellsQ_perm (h : Flood l d i Q Q.length) : (cellsQ l Q).Perm (prt l d i) := by
  have hr : prt l d i = cellsQ l ((List.range l.length).filter fun k => gpI l d k == i) := by
    unfold prt selN cellsQ
    have key : ∀ (L : List Nat), (∀ k ∈ L, k < l.length) → L.filterMap (fun k => if (gpI l d k == i) = true then l[k]? else none) = (L.filter fun k => gpI l d k == i).map fun m => (l[m]?).getD (0, 0, 0) := by
      intro L
      induction L with
      | nil => intro _; rfl
      | cons k L ih =>
        intro hk
        have h0 := hk k (by simp)
        have ih' := ih (fun k hk' => hk k (by simp [hk']))
        rw [List.filterMap_cons, List.filter_cons]
        by_cases hp : (gpI l d k == i) = true
        · rw [if_pos hp, if_pos hp, List.getElem?_eq_getElem h0, List.map_cons, ih', List.getElem?_eq_getElem h0]; rfl
        · rw [if_neg hp, if_neg hp]; exact ih'
    exact key _ (fun k hk => by simpa using hk)
  rw [hr]
  unfold cellsQ
  refine List.Perm.map _ ?_
  refine (List.perm_ext_iff_of_nodup h.nd (List.Pairwise.sublist List.filter_sublist List.nodup_range)).2 fun m => ?_
  rw [h.all m, List.mem_filter]
  simp
/-- A flood that is over: sorted, the cells are the part. -/
theorem flood_sorted (hl : SSC l) (h : Flood l d i Q Q.length) {l' : List (Int × Int × Int)} (hp : l'.Perm (cellsQ l Q)) (hw : WC l') : l' = prt l d i := by
  have hs := prt_ssc (d := d) (i := i) hl
  have hs' := (ssc_perm (hp.trans (cellsQ_perm h)) hw (ssc_iff.1 hs).1).2 hs
  exact ssc_unique _ _ hs' hs fun z => (hp.trans (cellsQ_perm h)).mem_iff
end
end Go.Proofs.Ytenckggfgbkfnaa
end
section
namespace Go.Proofs.Ytenckggfgbkfnaa
open Go Go.RowKit
/-- Indices below n that pairs link. -/
inductive Lnk (n : Nat) (pl : List (Int × Int)) : Nat → Nat → Prop
  | refl {i : Nat} : i < n → Lnk n pl i i
  | pair {i k : Nat} : ((i : Int), (k : Int)) ∈ pl → i < n → k < n → Lnk n pl i k
  | symm {i k : Nat} : Lnk n pl i k → Lnk n pl k i
  | trans {i j k : Nat} : Lnk n pl i j → Lnk n pl j k → Lnk n pl i k
section
variable {n : Nat} {pl : List (Int × Int)} {i k : Nat}
theorem Lnk.lt (h : Lnk n pl i k) : i < n ∧ k < n := by
  induction h with
  | refl h => exact ⟨h, h⟩
  | pair _ h1 h2 => exact ⟨h1, h2⟩
  | symm _ ih => exact ⟨ih.2, ih.1⟩
  | trans _ _ ih1 ih2 => exact ⟨ih1.1, ih2.2⟩
theorem Lnk.mono {pl' : List (Int × Int)} (hs : ∀ p ∈ pl, p ∈ pl') (h : Lnk n pl i k) : Lnk n pl' i k := by
  induction h with
  | refl h => exact .refl h
  | pair h h1 h2 => exact .pair (hs _ h) h1 h2
  | symm _ ih => exact .symm ih
  | trans _ _ ih1 ih2 => exact .trans ih1 ih2
noncomputable def lnkB (n : Nat) (pl : List (Int × Int)) (i k : Nat) : Bool := @decide (Lnk n pl i k) (Classical.propDecidable _)
theorem lnkB_iff : lnkB n pl i k = true ↔ Lnk n pl i k := by unfold lnkB; exact @decide_eq_true_iff _ (Classical.propDecidable _)
/-- f tells the linked sets apart. -/
def Tells (n : Nat) (pl : List (Int × Int)) (f : Nat → Nat) : Prop := ∀ i k, i < n → k < n → (f i = f k ↔ Lnk n pl i k)
theorem tells_start : Tells n [] id := by
  intro i k hi hk
  constructor
  · intro h; have e : i = k := h; subst e; exact .refl hi
  · intro h
    induction h with
    | refl _ => rfl
    | pair h _ _ => cases h
    | symm g ih => exact (ih (g.lt).1 (g.lt).2).symm
    | trans g1 g2 ih1 ih2 => exact (ih1 g1.lt.1 g1.lt.2).trans (ih2 g2.lt.1 g2.lt.2)
/-- Another pair: the set of a becomes that of b. -/
def joinF (f : Nat → Nat) (a b : Nat) : Nat → Nat := fun i => if f i = f a then f b else f i
theorem tells_step {f : Nat → Nat} {a b : Nat} (h : Tells n pl f) (ha : a < n) (hb : b < n) : Tells n (pl ++ [((a : Int), (b : Int))]) (joinF f a b) := by
  have hm : ∀ {i k}, Lnk n pl i k → Lnk n (pl ++ [((a : Int), (b : Int))]) i k := fun g => g.mono fun p hp => List.mem_append_left _ hp
  have hab : Lnk n (pl ++ [((a : Int), (b : Int))]) a b := .pair (by simp) ha hb
  intro i k hi hk
  constructor
  · intro e
    unfold joinF at e
    by_cases h1 : f i = f a
    · have g1 := hm ((h i a hi ha).1 h1)
      rw [if_pos h1] at e
      by_cases h2 : f k = f a
      · exact g1.trans (hm ((h k a hk ha).1 h2)).symm
      · rw [if_neg h2] at e
        exact (g1.trans hab).trans (hm ((h b k hb hk).1 e))
    · rw [if_neg h1] at e
      by_cases h2 : f k = f a
      · rw [if_pos h2] at e
        exact ((hm ((h k a hk ha).1 h2)).trans (hab.trans (hm ((h b i hb hi).1 e.symm)))).symm
      · rw [if_neg h2] at e
        exact hm ((h i k hi hk).1 e)
  · intro g
    clear hi hk
    induction g with
    | refl _ => rfl
    | pair hp h1 h2 =>
      rename_i i k
      rcases List.mem_append.1 hp with hp | hp
      · have e := (h i k h1 h2).2 (.pair hp h1 h2)
        unfold joinF; rw [e]
      · have e : (i : Int) = a ∧ (k : Int) = b := by simpa using hp
        obtain rfl : i = a := by omega
        obtain rfl : k = b := by omega
        unfold joinF
        rw [if_pos rfl]
        split <;> rfl
    | symm _ ih => exact ih.symm
    | trans _ _ ih1 ih2 => exact ih1.trans ih2
/-- A forest of numbers: each index leads on to its set's own. -/
structure UF (n : Nat) (gl : List Int) (f dep : Nat → Nat) : Prop where
  len : gl.length = n
  nxt : ∀ i, i < n → ∃ j : Nat, gl[i]? = some (j : Int) ∧ j < n ∧ f j = f i ∧ (j ≠ i → dep j < dep i) ∧ (j = i → f i = i)
  root : ∀ i, i < n → f i < n ∧ gl[f i]? = some ((f i : Nat) : Int)
theorem UF.start {gl : List Int} (h1 : gl.length = n) (h2 : ∀ (i : Nat) (x : Int), gl[i]? = some x → x = i) : UF n gl id fun _ => 0 := by
  have key : ∀ i, i < n → gl[i]? = some (i : Int) := fun i hi => by
    have hx : gl[i]? = some gl[i] := List.getElem?_eq_getElem (by omega)
    rw [hx, h2 i _ hx]
  exact ⟨h1, fun i hi => ⟨i, key i hi, hi, rfl, fun h => absurd rfl h, fun _ => rfl⟩, fun i hi => ⟨hi, key i hi⟩⟩
theorem UF.idem {gl : List Int} {f dep : Nat → Nat} (h : UF n gl f dep) (hi : i < n) : f (f i) = f i := by
  obtain ⟨h1, h2⟩ := h.root i hi
  obtain ⟨j, hj, _, hf, _, hr⟩ := h.nxt (f i) h1
  rw [h2] at hj
  injection hj with hj
  have e : f i = j := by omega
  exact hr e.symm
/-- A step of the way to the root, which shortens the way. -/
theorem UF.halve {gl : List Int} {f dep : Nat → Nat} (h : UF n gl f dep) (hi : i < n) {x y : Int} (hx : gl[i]? = some x) (hne : x ≠ (i : Int)) (hy : gl[x.toNat]? = some y) : UF n (gl.set i y) f dep ∧ ∃ m : Nat, y = m ∧ m < n ∧ f m = f i ∧ dep m < dep i := by
  obtain ⟨j, hj, hjn, hfj, hdj, _⟩ := h.nxt i hi
  rw [hx] at hj
  injection hj with hj
  subst hj
  have hji : j ≠ i := fun e => hne (by rw [e])
  rw [Int.toNat_natCast] at hy
  obtain ⟨m, hm, hmn, hfm, hdm, _⟩ := h.nxt j hjn
  rw [hy] at hm
  injection hm with hm
  subst hm
  have hd : dep m < dep i := by
    have h1 := hdj hji
    by_cases e : m = j
    · subst e; exact h1
    · have := hdm e; omega
  have hmi : m ≠ i := fun e => by rw [e] at hd; omega
  refine ⟨⟨by simp [h.len], fun k hk => ?_, fun k hk => ?_⟩, m, rfl, hmn, by rw [hfm, hfj], hd⟩
  · by_cases e : i = k
    · subst e
      exact ⟨m, by rw [List.getElem?_set, if_pos rfl, if_pos (by rw [h.len]; exact hi)], hmn, by rw [hfm, hfj], fun _ => hd, fun e => absurd e hmi⟩
    · obtain ⟨j', h1, h2⟩ := h.nxt k hk
      exact ⟨j', by rw [List.getElem?_set, if_neg e]; exact h1, h2⟩
  · obtain ⟨h1, h2⟩ := h.root k hk
    refine ⟨h1, ?_⟩
    have e : i ≠ f k := fun e => by
      rw [← e, hx] at h2
      injection h2 with h2
      exact hji (by omega)
    rw [List.getElem?_set, if_neg e]
    exact h2
theorem UF.at_root {gl : List Int} {f dep : Nat → Nat} (h : UF n gl f dep) (hi : i < n) (hx : gl[i]? = some (i : Int)) : f i = i := by
  obtain ⟨j, hj, _, _, _, hr⟩ := h.nxt i hi
  rw [hx] at hj
  injection hj with hj
  exact hr (by omega)
/-- One root is laid under another. -/
theorem UF.join {gl : List Int} {f dep : Nat → Nat} {a b : Nat} (h : UF n gl f dep) (ha : a < n) (hb : b < n) : ∃ dep', UF n (gl.set (f a) ((f b : Nat) : Int)) (joinF f a b) dep' := by
  have ra := h.root a ha
  have rb := h.root b hb
  have ia := h.idem ha
  have ib := h.idem hb
  by_cases hab : f a = f b
  · have e1 : gl.set (f a) ((f b : Nat) : Int) = gl := by
      apply List.ext_getElem?
      intro t
      rw [List.getElem?_set]
      split
      · rename_i e; subst e
        rw [if_pos (by rw [h.len]; exact ra.1), ra.2, hab]
      · rfl
    have e2 : joinF f a b = f := by
      funext i; unfold joinF; split
      · rename_i e; rw [e, hab]
      · rfl
    rw [e1, e2]
    exact ⟨dep, h⟩
  · have jr : ∀ i, f i = f a → joinF f a b i = f b := fun i e => by unfold joinF; rw [if_pos e]
    have jo : ∀ i, f i ≠ f a → joinF f a b i = f i := fun i e => by unfold joinF; rw [if_neg e]
    refine ⟨fun i => if f i = f a then dep i + dep (f b) + 1 else dep i, ⟨by simp [h.len], fun i hi => ?_, fun i hi => ?_⟩⟩
    · by_cases e : f a = i
      · subst e
        refine ⟨f b, by rw [List.getElem?_set, if_pos rfl, if_pos (by rw [h.len]; exact hi)], rb.1, ?_, fun _ => ?_, fun e => absurd e.symm hab⟩
        · rw [jr _ ia, jo (f b) (by rw [ib]; exact fun e => hab e.symm), ib]
        · show (if f (f b) = f a then dep (f b) + dep (f b) + 1 else dep (f b)) < (if f (f a) = f a then dep (f a) + dep (f b) + 1 else dep (f a))
          rw [if_neg (by rw [ib]; exact fun e => hab e.symm), if_pos ia]; omega
      · obtain ⟨j, h1, h2, h3, h4, h5⟩ := h.nxt i hi
        refine ⟨j, by rw [List.getElem?_set, if_neg e]; exact h1, h2, ?_, fun hne => ?_, fun hje => ?_⟩
        · unfold joinF; rw [h3]
        · show (if f j = f a then dep j + dep (f b) + 1 else dep j) < (if f i = f a then dep i + dep (f b) + 1 else dep i)
          rw [h3]
          have := h4 hne
          split <;> omega
        · have h6 := h5 hje
          rw [jo i (by rw [h6]; exact fun e' => e e'.symm)]
          exact h6
    · by_cases e : f i = f a
      · rw [jr i e]
        refine ⟨rb.1, ?_⟩
        rw [List.getElem?_set, if_neg hab]; exact rb.2
      · obtain ⟨h1, h2⟩ := h.root i hi
        rw [jo i e]
        refine ⟨h1, ?_⟩
        rw [List.getElem?_set, if_neg (fun e' => e e'.symm)]; exact h2
end
/-- The cells of the lists at the indices that a test takes, one list behind the other. -/
def catN (ls : List (List (Int × Int × Int))) (p : Nat → Bool) (m : Nat) : List (Int × Int × Int) := (List.range m).flatMap fun k => if p k = true then (ls[k]?).getD [] else []
theorem catN_step {ls : List (List (Int × Int × Int))} {p : Nat → Bool} {m : Nat} {l : List (Int × Int × Int)} (h : ls[m]? = some l) : catN ls p (m + 1) = catN ls p m ++ (if p m = true then l else []) := by
  unfold catN
  rw [List.range_succ, List.flatMap_append]
  simp [h]
theorem catN_congr {ls : List (List (Int × Int × Int))} {p q : Nat → Bool} : ∀ {m : Nat}, (∀ k, k < m → p k = q k) → catN ls p m = catN ls q m
  | 0, _ => rfl
  | m + 1, h => by
    unfold catN
    rw [List.range_succ, List.flatMap_append, List.flatMap_append]
    have h0 : catN ls p m = catN ls q m := catN_congr fun k hk => h k (by omega)
    unfold catN at h0
    rw [h0]
    simp [h m (by omega)]
theorem catN_mem {ls : List (List (Int × Int × Int))} {p : Nat → Bool} {m : Nat} {c : Int × Int × Int} : c ∈ catN ls p m ↔ ∃ k l, k < m ∧ p k = true ∧ ls[k]? = some l ∧ c ∈ l := by
  unfold catN
  rw [List.mem_flatMap]
  constructor
  · rintro ⟨k, hk, hc⟩
    by_cases hp : p k = true
    · rw [if_pos hp] at hc
      cases hl : ls[k]? with
      | none => rw [hl] at hc; simp at hc
      | some l => rw [hl] at hc; exact ⟨k, l, by simpa using hk, hp, hl, hc⟩
    · rw [if_neg hp] at hc; cases hc
  · rintro ⟨k, l, hk, hp, hl, hc⟩
    exact ⟨k, by simpa using hk, by rw [if_pos hp, hl]; exact hc⟩
theorem catN_sub {ls : List (List (Int × Int × Int))} {p : Nat → Bool} : ∀ {m : Nat}, m ≤ ls.length → (catN ls p m).Sublist (ls.take m).flatten
  | 0, _ => by simp [catN]
  | m + 1, hm => by
    have ha : ls[m]? = some ls[m] := List.getElem?_eq_getElem (by omega)
    rw [catN_step ha, List.take_add_one, ha, List.flatten_append]
    refine List.Sublist.append (catN_sub (by omega)) ?_
    split
    · simp
    · simp
/-- The set of index i as a pattern. -/
noncomputable def clsP (ls : List (List (Int × Int × Int))) (pl : List (Int × Int)) (i : Nat) : List (Int × Int × Int) := srtC (catN ls (lnkB ls.length pl i) ls.length)
/-- The first cell is ahead. -/
def hdBef (a b : List (Int × Int × Int)) : Bool := cBef (a.headD (0, 0, 0)) (b.headD (0, 0, 0))
/-- What Merge returns: the sets' patterns, by their first cells. -/
def IsMg (ls : List (List (Int × Int × Int))) (pl : List (Int × Int)) (L : List (List (Int × Int × Int))) : Prop := L.Pairwise (fun a b => hdBef a b = true) ∧ ∀ q, q ∈ L ↔ ∃ i, i < ls.length ∧ q = clsP ls pl i
def badL (l : List (Int × Int × Int)) : Bool := l.isEmpty || !rightC l
def badP (n : Nat) (p : Int × Int) : Bool := decide (p.1 < 0 ∨ (n : Int) ≤ p.1 ∨ p.2 < 0 ∨ (n : Int) ≤ p.2)
/-- The error of Merge. -/
def mgE (ls : List (List (Int × Int × Int))) (pl : List (Int × Int)) : Int := if ls.any badL = true then 2 else if pl.any (badP ls.length) = true then 13 else if ¬ (ls.flatten.map posD).Nodup then 8 else if 5000 < ls.flatten.length then 6 else 0
/-- Two lists in a strict order with the same members are one. -/
theorem pw_unique {α : Type} {r : α → α → Prop} (asym : ∀ a b, r a b → ¬ r b a) : ∀ (a b : List α), a.Pairwise r → b.Pairwise r → (∀ x, x ∈ a ↔ x ∈ b) → a = b
  | [], [], _, _, _ => rfl
  | [], y :: b, _, _, h => absurd ((h y).2 (by simp)) (by simp)
  | x :: a, [], _, _, h => absurd ((h x).1 (by simp)) (by simp)
  | x :: a, y :: b, ha, hb, h => by
    obtain ⟨ha1, ha2⟩ := List.pairwise_cons.1 ha
    obtain ⟨hb1, hb2⟩ := List.pairwise_cons.1 hb
    have irr : ∀ z, ¬ r z z := fun z hz => asym z z hz hz
    have e : x = y := by
      rcases List.mem_cons.1 ((h x).1 (by simp)) with e | hm
      · exact e
      · rcases List.mem_cons.1 ((h y).2 (by simp)) with e | hm'
        · exact e.symm
        · exact absurd (ha1 y hm') (asym _ _ (hb1 x hm))
    subst e
    congr 1
    refine pw_unique asym a b ha2 hb2 fun z => ⟨fun hz => ?_, fun hz => ?_⟩
    · rcases List.mem_cons.1 ((h z).1 (by simp [hz])) with e | hm
      · subst e; exact absurd (ha1 z hz) (irr z)
      · exact hm
    · rcases List.mem_cons.1 ((h z).2 (by simp [hz])) with e | hm
      · subst e; exact absurd (hb1 z hz) (irr z)
      · exact hm
theorem mg_unique {ls : List (List (Int × Int × Int))} {pl : List (Int × Int)} {L L' : List (List (Int × Int × Int))} (h : IsMg ls pl L) (h' : IsMg ls pl L') : L = L' := by
  refine pw_unique (r := fun a b => hdBef a b = true) (fun a b h1 h2 => ?_) L L' h.1 h'.1 fun q => by rw [h.2 q, h'.2 q]
  unfold hdBef at h1 h2
  rw [cBef_asym h1] at h2; cases h2
end Go.Proofs.Ytenckggfgbkfnaa
end
section
namespace Go.Proofs.Ytenckggfgbkfnaa
open Go Go.RowKit
section
variable {ax ay aw ah bx by' bw bh px py : Int}
theorem boxIn_iff {x y w h px py : Int} : boxInB x y w h px py = true ↔ rightB x y w h = true ∧ x ≤ px ∧ px < x + w ∧ y ≤ py ∧ py < y + h := by
  unfold boxInB; rw [Bool.and_eq_true, decide_eq_true_eq]
theorem meetOk_comm (ax ay aw ah bx by' bw bh : Int) : meetOk ax ay aw ah bx by' bw bh = meetOk bx by' bw bh ax ay aw ah := by
  rw [Bool.eq_iff_iff, meetOk_iff, meetOk_iff, Int.max_comm, Int.min_comm (a := ax + aw), Int.max_comm (a := ay), Int.min_comm (a := ay + ah)]
  exact ⟨fun ⟨a, b, c, d⟩ => ⟨b, a, c, d⟩, fun ⟨a, b, c, d⟩ => ⟨b, a, c, d⟩⟩
theorem meet_comm (ax ay aw ah bx by' bw bh : Int) : meetX ax ay aw ah bx by' bw bh = meetX bx by' bw bh ax ay aw ah ∧ meetY ax ay aw ah bx by' bw bh = meetY bx by' bw bh ax ay aw ah ∧ meetW ax ay aw ah bx by' bw bh = meetW bx by' bw bh ax ay aw ah ∧ meetH ax ay aw ah bx by' bw bh = meetH bx by' bw bh ax ay aw ah := by
  unfold meetX meetY meetW meetH
  rw [meetOk_comm ax ay aw ah]
  refine ⟨?_, ?_, ?_, ?_⟩ <;> (congr 1; omega)
theorem right0 : rightB 0 0 0 0 = false := by decide +kernel
theorem meet_in (hA : rightB ax ay aw ah = true) (hB : rightB bx by' bw bh = true) : boxInB (meetX ax ay aw ah bx by' bw bh) (meetY ax ay aw ah bx by' bw bh) (meetW ax ay aw ah bx by' bw bh) (meetH ax ay aw ah bx by' bw bh) px py = (boxInB ax ay aw ah px py && boxInB bx by' bw bh px py) := by
  have rA := rightB_iff.1 hA
  have rB := rightB_iff.1 hB
  cases hq : meetOk ax ay aw ah bx by' bw bh with
  | false =>
    have h0 : meetX ax ay aw ah bx by' bw bh = 0 ∧ meetY ax ay aw ah bx by' bw bh = 0 ∧ meetW ax ay aw ah bx by' bw bh = 0 ∧ meetH ax ay aw ah bx by' bw bh = 0 := by
      unfold meetX meetY meetW meetH; rw [hq]; exact ⟨rfl, rfl, rfl, rfl⟩
    rw [h0.1, h0.2.1, h0.2.2.1, h0.2.2.2]
    have e1 : boxInB 0 0 0 0 px py = false := by unfold boxInB; rw [right0]; rfl
    rw [e1]
    symm
    rw [Bool.eq_false_iff]
    intro hc
    rw [Bool.and_eq_true, boxIn_iff, boxIn_iff] at hc
    obtain ⟨⟨_, a1, a2, a3, a4⟩, ⟨_, b1, b2, b3, b4⟩⟩ := hc
    have : meetOk ax ay aw ah bx by' bw bh = true := meetOk_iff.2 ⟨hA, hB, by omega, by omega⟩
    rw [hq] at this; cases this
  | true =>
    obtain ⟨_, _, h1, h2⟩ := meetOk_iff.1 hq
    unfold meetX meetY meetW meetH ifB
    rw [hq, if_pos rfl, if_pos rfl, if_pos rfl, if_pos rfl, Bool.eq_iff_iff, Bool.and_eq_true, boxIn_iff, boxIn_iff, boxIn_iff, rightB_iff, hA, hB]
    constructor
    · rintro ⟨_, a1, a2, a3, a4⟩
      exact ⟨⟨rfl, by omega, by omega, by omega, by omega⟩, ⟨rfl, by omega, by omega, by omega, by omega⟩⟩
    · rintro ⟨⟨_, a1, a2, a3, a4⟩, ⟨_, b1, b2, b3, b4⟩⟩
      exact ⟨by omega, by omega, by omega, by omega, by omega⟩
theorem meet_both (h1 : boxInB ax ay aw ah px py = true) (h2 : boxInB bx by' bw bh px py = true) : meetOk ax ay aw ah bx by' bw bh = true := by
  obtain ⟨hA, a1, a2, a3, a4⟩ := boxIn_iff.1 h1
  obtain ⟨hB, b1, b2, b3, b4⟩ := boxIn_iff.1 h2
  exact meetOk_iff.2 ⟨hA, hB, by omega, by omega⟩
theorem join_in (hA : rightB ax ay aw ah = true) (hB : rightB bx by' bw bh = true) (h : boxInB ax ay aw ah px py = true ∨ boxInB bx by' bw bh px py = true) : boxInB (joinX ax ay aw ah bx by' bw bh) (joinY ax ay aw ah bx by' bw bh) (joinW ax ay aw ah bx by' bw bh) (joinH ax ay aw ah bx by' bw bh) px py = true := by
  have rA := rightB_iff.1 hA
  have rB := rightB_iff.1 hB
  unfold joinX joinY joinW joinH
  rw [hA, hB]
  simp only [joinV]
  rw [boxIn_iff, rightB_iff]
  rcases h with h | h
  · obtain ⟨_, a1, a2, a3, a4⟩ := boxIn_iff.1 h
    refine ⟨?_, ?_, ?_, ?_, ?_⟩ <;> omega
  · obtain ⟨_, a1, a2, a3, a4⟩ := boxIn_iff.1 h
    refine ⟨?_, ?_, ?_, ?_, ?_⟩ <;> omega
end
/-- Grow by k is undone by Grow by -k. -/
theorem grow_back {x y w h k : Int} (hr : rightB x y w h = true) (hk : -4194304 ≤ k ∧ k ≤ 4194304) (he : growE x y w h k = 0) :
    growE (growX x y w h k) (growY x y w h k) (growW x y w h k) (growH x y w h k) (-k) = 0 ∧ growX (growX x y w h k) (growY x y w h k) (growW x y w h k) (growH x y w h k) (-k) = x ∧ growY (growX x y w h k) (growY x y w h k) (growW x y w h k) (growH x y w h k) (-k) = y ∧
      growW (growX x y w h k) (growY x y w h k) (growW x y w h k) (growH x y w h k) (-k) = w ∧ growH (growX x y w h k) (growY x y w h k) (growW x y w h k) (growH x y w h k) (-k) = h := by
  have hR := rightB_iff.1 hr
  have c1 : clampK k = k := by unfold clampK; omega
  have c2 : clampK (-k) = -k := by unfold clampK; omega
  have hok : growOk x y w h k = true := by unfold growOk; rw [he]; rfl
  have e1 : growX x y w h k = x - k := by unfold growX ifB; rw [hok, if_pos rfl, c1]
  have e2 : growY x y w h k = y - k := by unfold growY ifB; rw [hok, if_pos rfl, c1]
  have e3 : growW x y w h k = w + 2 * k := by unfold growW ifB; rw [hok, if_pos rfl, c1]
  have e4 : growH x y w h k = h + 2 * k := by unfold growH ifB; rw [hok, if_pos rfl, c1]
  rw [e1, e2, e3, e4]
  have hg : ¬ (w + 2 * k < 1 ∨ h + 2 * k < 1) ∧ rightB (x - k) (y - k) (w + 2 * k) (h + 2 * k) = true := by
    unfold growE at he
    rw [if_pos hr, c1] at he
    split at he
    · omega
    · rename_i hn
      refine ⟨hn, ?_⟩
      split at he
      · assumption
      · omega
  have hE : growE (x - k) (y - k) (w + 2 * k) (h + 2 * k) (-k) = 0 := by
    unfold growE
    rw [if_pos hg.2, c2, if_neg (by omega), if_pos]
    rw [rightB_iff]; omega
  have hok2 : growOk (x - k) (y - k) (w + 2 * k) (h + 2 * k) (-k) = true := by unfold growOk; rw [hE]; rfl
  refine ⟨hE, ?_, ?_, ?_, ?_⟩
  · unfold growX ifB; rw [hok2, if_pos rfl, c2]; omega
  · unfold growY ifB; rw [hok2, if_pos rfl, c2]; omega
  · unfold growW ifB; rw [hok2, if_pos rfl, c2]; omega
  · unfold growH ifB; rw [hok2, if_pos rfl, c2]; omega
theorem lo_le : ∀ (l : List (Int × Int)) (d m : Int), (∀ p, p ∈ l → m ≤ p.1) → m ≤ d → m ≤ loX l d
  | [], d, m, _, h => h
  | p :: l, d, m, hp, h => lo_le l (min d p.1) m (fun q hq => hp q (by simp [hq])) (by have := hp p (by simp); omega)
theorem loY_le : ∀ (l : List (Int × Int)) (d m : Int), (∀ p, p ∈ l → m ≤ p.2) → m ≤ d → m ≤ loY l d
  | [], d, m, _, h => h
  | p :: l, d, m, hp, h => loY_le l (min d p.2) m (fun q hq => hp q (by simp [hq])) (by have := hp p (by simp); omega)
theorem hi_le : ∀ (l : List (Int × Int)) (d m : Int), (∀ p, p ∈ l → p.1 ≤ m) → d ≤ m → hiX l d ≤ m
  | [], d, m, _, h => h
  | p :: l, d, m, hp, h => hi_le l (max d p.1) m (fun q hq => hp q (by simp [hq])) (by have := hp p (by simp); omega)
theorem hiY_le : ∀ (l : List (Int × Int)) (d m : Int), (∀ p, p ∈ l → p.2 ≤ m) → d ≤ m → hiY l d ≤ m
  | [], d, m, _, h => h
  | p :: l, d, m, hp, h => hiY_le l (max d p.2) m (fun q hq => hp q (by simp [hq])) (by have := hp p (by simp); omega)
theorem lo_low : ∀ (l : List (Int × Int)) (d : Int), loX l d ≤ d ∧ (∀ p, p ∈ l → loX l d ≤ p.1)
  | [], d => ⟨Int.le_refl _, fun p h => by simp at h⟩
  | q :: l, d => by
    have ih := lo_low l (min d q.1)
    refine ⟨by have := ih.1; show loX l (min d q.1) ≤ d; omega, fun p hp => ?_⟩
    rcases List.mem_cons.1 hp with rfl | h
    · have := ih.1; show loX l (min d p.1) ≤ p.1; omega
    · exact ih.2 p h
theorem loY_low : ∀ (l : List (Int × Int)) (d : Int), loY l d ≤ d ∧ (∀ p, p ∈ l → loY l d ≤ p.2)
  | [], d => ⟨Int.le_refl _, fun p h => by simp at h⟩
  | q :: l, d => by
    have ih := loY_low l (min d q.2)
    refine ⟨by have := ih.1; show loY l (min d q.2) ≤ d; omega, fun p hp => ?_⟩
    rcases List.mem_cons.1 hp with rfl | h
    · have := ih.1; show loY l (min d p.2) ≤ p.2; omega
    · exact ih.2 p h
theorem hi_high : ∀ (l : List (Int × Int)) (d : Int), d ≤ hiX l d ∧ (∀ p, p ∈ l → p.1 ≤ hiX l d)
  | [], d => ⟨Int.le_refl _, fun p h => by simp at h⟩
  | q :: l, d => by
    have ih := hi_high l (max d q.1)
    refine ⟨by have := ih.1; show d ≤ hiX l (max d q.1); omega, fun p hp => ?_⟩
    rcases List.mem_cons.1 hp with rfl | h
    · have := ih.1; show p.1 ≤ hiX l (max d p.1); omega
    · exact ih.2 p h
theorem hiY_high : ∀ (l : List (Int × Int)) (d : Int), d ≤ hiY l d ∧ (∀ p, p ∈ l → p.2 ≤ hiY l d)
  | [], d => ⟨Int.le_refl _, fun p h => by simp at h⟩
  | q :: l, d => by
    have ih := hiY_high l (max d q.2)
    refine ⟨by have := ih.1; show d ≤ hiY l (max d q.2); omega, fun p hp => ?_⟩
    rcases List.mem_cons.1 hp with rfl | h
    · have := ih.1; show p.2 ≤ hiY l (max d p.2); omega
    · exact ih.2 p h
/-- Around of a box's positions is the box. -/
theorem around_pts {x y w h : Int} (hr : rightB x y w h = true) (hw : w * h ≤ 5000) (h1 : 1 ≤ w * h) : arOk (ptsL x y w h) = true ∧ arX (ptsL x y w h) = x ∧ arY (ptsL x y w h) = y ∧ arW (ptsL x y w h) = w ∧ arH (ptsL x y w h) = h ∧ ((ptsL x y w h).length : Int) = w * h := by
  have hR := rightB_iff.1 hr
  have hok : ptsOk x y w h = true := by unfold ptsOk; rw [hr, decide_eq_true hw]; rfl
  have hl : ptsL x y w h = ptsAt x y w (w * h).toNat := by unfold ptsL; rw [if_pos hok]
  have hlen : (ptsL x y w h).length = (w * h).toNat := by rw [hl, ptsAt_len]
  have hmem : ∀ p, p ∈ ptsL x y w h → x ≤ p.1 ∧ p.1 ≤ x + w - 1 ∧ y ≤ p.2 ∧ p.2 ≤ y + h - 1 := by
    intro p hp
    rw [hl] at hp
    obtain ⟨i, hi, rfl⟩ := List.mem_map.1 hp
    have hi' : i < (w * h).toNat := by simpa using hi
    unfold ptAt
    have r1 := Int.emod_nonneg (i : Int) (show w ≠ 0 by omega)
    have r2 := Int.emod_lt_of_pos (i : Int) (show 0 < w by omega)
    have q1 := Int.ediv_nonneg (show (0 : Int) ≤ i by omega) (show (0 : Int) ≤ w by omega)
    have q2 : (i : Int) / w < h := Int.ediv_lt_of_lt_mul (by omega) (by rw [Int.mul_comm]; omega)
    refine ⟨?_, ?_, ?_, ?_⟩ <;> (simp only; omega)
  have hfirst : (x, y) ∈ ptsL x y w h := by
    rw [hl]
    refine List.mem_map.2 ⟨0, by simp; omega, ?_⟩
    unfold ptAt; simp
  have hlast : (x + w - 1, y + h - 1) ∈ ptsL x y w h := by
    rw [hl]
    obtain ⟨wn, rfl⟩ : ∃ wn : Nat, w = (wn : Int) := ⟨w.toNat, by omega⟩
    obtain ⟨hn, rfl⟩ : ∃ hn : Nat, h = (hn : Int) := ⟨h.toNat, by omega⟩
    have hkk : (hn - 1) * wn + (wn - 1) < hn * wn := by
      obtain ⟨m, rfl⟩ : ∃ m, hn = m + 1 := ⟨hn - 1, by omega⟩
      rw [Nat.add_mul, Nat.one_mul, Nat.add_sub_cancel]; omega
    refine List.mem_map.2 ⟨(hn - 1) * wn + (wn - 1), ?_, ?_⟩
    · have e : ((wn : Int) * (hn : Int)).toNat = hn * wn := by rw [← Int.natCast_mul, Int.toNat_natCast, Nat.mul_comm]
      rw [e]; simpa using hkk
    · rw [ptAt_row (by omega)]
      simp only [Prod.mk.injEq]; omega
  have hne : ptsL x y w h ≠ [] := fun e => by rw [e] at hfirst; simp at hfirst
  have har : arOk (ptsL x y w h) = true := by
    unfold arOk
    rw [Bool.and_eq_true, List.all_eq_true]
    refine ⟨by (cases hq : ptsL x y w h with | nil => exact absurd hq hne | cons _ _ => rfl), fun p hp => ?_⟩
    have := hmem p hp
    unfold okP
    rw [validB_iff]; unfold Pt; omega
  have hfst : fstX (ptsL x y w h) = x ∧ fstY (ptsL x y w h) = y := by
    refine fst_of ?_
    rw [hl]
    unfold ptsAt
    rw [List.getElem?_map, List.getElem?_range (by omega)]
    unfold ptAt; simp
  have eX : loX (ptsL x y w h) x = x := by
    have a := (lo_low (ptsL x y w h) x).1
    have b := lo_le (ptsL x y w h) x x (fun p hp => (hmem p hp).1) (Int.le_refl _)
    omega
  have eY : loY (ptsL x y w h) y = y := by
    have a := (loY_low (ptsL x y w h) y).1
    have b := loY_le (ptsL x y w h) y y (fun p hp => (hmem p hp).2.2.1) (Int.le_refl _)
    omega
  have eX2 : hiX (ptsL x y w h) x = x + w - 1 := by
    have a := (hi_high (ptsL x y w h) x).2 _ hlast
    have b := hi_le (ptsL x y w h) x (x + w - 1) (fun p hp => (hmem p hp).2.1) (by omega)
    simp only at a; omega
  have eY2 : hiY (ptsL x y w h) y = y + h - 1 := by
    have a := (hiY_high (ptsL x y w h) y).2 _ hlast
    have b := hiY_le (ptsL x y w h) y (y + h - 1) (fun p hp => (hmem p hp).2.2.2) (by omega)
    simp only at a; omega
  refine ⟨har, ?_, ?_, ?_, ?_, by rw [hlen]; omega⟩
  · unfold arX ifB; rw [har, if_pos rfl, hfst.1, eX]
  · unfold arY ifB; rw [har, if_pos rfl, hfst.2, eY]
  · unfold arW ifB; rw [har, if_pos rfl, hfst.1, eX, eX2]; omega
  · unfold arH ifB; rw [har, if_pos rfl, hfst.2, eY, eY2]; omega
end Go.Proofs.Ytenckggfgbkfnaa
end
section
namespace Go.Proofs.Ytenckggfgbkfnaa
open Go Go.RowKit
abbrev Cs := List (Int × Int × Int)
section
variable {ls : List (List (Int × Int × Int))} {pl : List (Int × Int)} {n i k : Nat} {f : Nat → Nat}
/-- The positions of the lists ahead of the i-th one. -/
def posT (ls : List (List (Int × Int × Int))) (i : Nat) : List (Int × Int) := (ls.take i).flatten.map posD
theorem posT_step {l : List (Int × Int × Int)} (h : ls[i]? = some l) : posT ls (i + 1) = posT ls i ++ l.map posD := by
  unfold posT
  rw [List.take_add_one, h]
  simp
theorem posT_pre {l : List (Int × Int × Int)} (h : ls[i]? = some l) (k : Nat) : (posT ls i ++ (l.take k).map posD).Sublist (ls.flatten.map posD) := by
  have h1 : (posT ls i ++ (l.take k).map posD).Sublist (posT ls (i + 1)) := by
    rw [posT_step h]
    exact List.Sublist.append (List.Sublist.refl _) ((List.take_sublist k l).map _)
  refine h1.trans ?_
  unfold posT
  refine List.Sublist.map _ ?_
  have e := List.take_append_drop (i + 1) ls
  rw [← e, List.flatten_append]
  have e2 : ((ls.take (i + 1) ++ ls.drop (i + 1)).take (i + 1)) = ls.take (i + 1) := by rw [e]
  rw [e2]
  exact List.sublist_append_left _ _
theorem posT_all (h : ls.length = n) : posT ls n = ls.flatten.map posD := by unfold posT; rw [List.take_of_length_le (by omega)]
theorem two_lists : ∀ (ls : List (List (Int × Int × Int))) (i k : Nat) (l r : List (Int × Int × Int)) (c d : Int × Int × Int), (ls.flatten.map posD).Nodup → ls[i]? = some l → ls[k]? = some r → i < k → c ∈ l → d ∈ r → posD c ≠ posD d
  | [], i, k, l, r, c, d, _, h, _, _, _, _ => by simp at h
  | x :: ls, 0, k + 1, l, r, c, d, hn, h1, h2, _, hc, hd => by
    have e : x = l := by simpa using h1
    subst e
    rw [List.flatten_cons, List.map_append, List.nodup_append] at hn
    have hr : r ∈ ls := List.mem_of_getElem? (by simpa using h2)
    exact hn.2.2 _ (List.mem_map.2 ⟨c, hc, rfl⟩) _ (List.mem_map.2 ⟨d, List.mem_flatten.2 ⟨r, hr, hd⟩, rfl⟩)
  | x :: ls, i + 1, 0, l, r, c, d, _, _, _, h, _, _ => by omega
  | x :: ls, i + 1, k + 1, l, r, c, d, hn, h1, h2, h, hc, hd => by
    rw [List.flatten_cons, List.map_append, List.nodup_append] at hn
    exact two_lists ls i k l r c d hn.2.1 (by simpa using h1) (by simpa using h2) (by omega) hc hd
theorem two_apart {l r : List (Int × Int × Int)} {c d : Int × Int × Int} (hn : (ls.flatten.map posD).Nodup) (h1 : ls[i]? = some l) (h2 : ls[k]? = some r) (hne : i ≠ k) (hc : c ∈ l) (hd : d ∈ r) : posD c ≠ posD d := by
  rcases Nat.lt_or_ge i k with h | h
  · exact two_lists ls i k l r c d hn h1 h2 h hc hd
  · exact fun e => two_lists ls k i r l d c hn h2 h1 (by omega) hd hc e.symm
theorem cat_nodup {p : Nat → Bool} (hn : (ls.flatten.map posD).Nodup) : ((catN ls p ls.length).map posD).Nodup := by
  have h := catN_sub (ls := ls) (p := p) (Nat.le_refl _)
  rw [List.take_of_length_le (Nat.le_refl _)] at h
  exact List.Pairwise.sublist (h.map _) hn
/-- The pattern of a set, by its own index. -/
def patR (ls : List (List (Int × Int × Int))) (f : Nat → Nat) (r : Nat) : List (Int × Int × Int) := srtC (catN ls (fun k => f k == r) ls.length)
theorem patR_cls (ht : Tells ls.length pl f) (hi : i < ls.length) : patR ls f (f i) = clsP ls pl i := by
  unfold patR clsP
  congr 1
  refine catN_congr fun k hk => ?_
  rw [Bool.eq_iff_iff, lnkB_iff, beq_iff_eq]
  constructor
  · intro e; exact (ht i k hi hk).1 e.symm
  · intro e; exact ((ht i k hi hk).2 e).symm
theorem patR_mem {r : Nat} {c : Int × Int × Int} : c ∈ patR ls f r ↔ ∃ k l, k < ls.length ∧ f k = r ∧ ls[k]? = some l ∧ c ∈ l := by
  unfold patR
  rw [(srtC_perm _).mem_iff, catN_mem]
  simp only [beq_iff_eq]
theorem patR_ne (hne : ∀ l ∈ ls, l ≠ []) (hi : i < ls.length) : patR ls f (f i) ≠ [] := by
  have hl : ls[i]? = some ls[i] := List.getElem?_eq_getElem hi
  obtain ⟨c, hc⟩ := List.exists_mem_of_ne_nil _ (hne _ (List.mem_of_getElem? hl))
  exact List.ne_nil_of_mem (patR_mem.2 ⟨i, _, hi, rfl, hl, hc⟩)
theorem headD_mem {l : List (Int × Int × Int)} (h : l ≠ []) : l.headD (0, 0, 0) ∈ l := by
  cases l with
  | nil => exact absurd rfl h
  | cons a l => simp
/-- What the program's last sort leaves is what Merge is to return. -/
theorem mg_of {rs : List Nat} {L : List (List (Int × Int × Int))} (ht : Tells ls.length pl f) (hn : (ls.flatten.map posD).Nodup) (hne : ∀ l ∈ ls, l ≠ []) (h1 : rs.Nodup) (h2 : ∀ r, r ∈ rs ↔ ∃ i, i < ls.length ∧ f i = r)
    (hp : L.Perm (rs.map (patR ls f))) (hw : L.Pairwise fun a b => hdBef b a = false) : IsMg ls pl L := by
  have hpos : ((rs.map (patR ls f)).map fun l => posD (l.headD (0, 0, 0))).Nodup := by
    rw [List.map_map]
    unfold List.Nodup
    rw [List.pairwise_map]
    refine List.Pairwise.imp_of_mem (fun {r r'} hr hr' hne' => ?_) h1
    obtain ⟨i, hi, rfl⟩ := (h2 r).1 hr
    obtain ⟨i', hi', rfl⟩ := (h2 r').1 hr'
    obtain ⟨k, l, hk, e, hl, hc⟩ := patR_mem.1 (headD_mem (patR_ne (f := f) hne hi))
    obtain ⟨k', l', hk', e', hl', hc'⟩ := patR_mem.1 (headD_mem (patR_ne (f := f) hne hi'))
    exact two_apart hn hl hl' (fun ek => hne' (by rw [← e, ← e', ek])) hc hc'
  have hpos' := ((hp.map fun l => posD (l.headD (0, 0, 0))).nodup_iff).2 hpos
  unfold List.Nodup at hpos'
  rw [List.pairwise_map] at hpos'
  refine ⟨(hw.and hpos').imp fun {a b} h => ?_, fun q => ?_⟩
  · unfold hdBef cBef befP at *
    unfold posD at h
    obtain ⟨g1, g2⟩ := h
    simp only [decide_eq_false_iff_not, decide_eq_true_eq, ne_eq, Prod.mk.injEq] at *
    omega
  · rw [hp.mem_iff, List.mem_map]
    constructor
    · rintro ⟨r, hr, rfl⟩
      obtain ⟨i, hi, rfl⟩ := (h2 r).1 hr
      exact ⟨i, hi, patR_cls ht hi⟩
    · rintro ⟨i, hi, rfl⟩
      exact ⟨f i, (h2 _).2 ⟨i, hi, rfl⟩, patR_cls ht hi⟩
theorem mgE_bad {l : List (Int × Int × Int)} (h : ls[i]? = some l) (hb : badL l = true) : mgE ls pl = 2 := by
  unfold mgE; rw [if_pos (List.any_eq_true.2 ⟨l, List.mem_of_getElem? h, hb⟩)]
theorem any_bad (h : ∀ i l, i < ls.length → ls[i]? = some l → badL l = false) : ls.any badL = false := by
  rw [List.any_eq_false]
  intro x hx
  obtain ⟨i, hi, e⟩ := List.getElem_of_mem hx
  rw [h i x hi (by rw [List.getElem?_eq_getElem hi, e])]
  simp
theorem mgE_pair {p : Int × Int} (h0 : ls.any badL = false) (h : pl[i]? = some p) (hb : badP ls.length p = true) : mgE ls pl = 13 := by
  unfold mgE; rw [if_neg (by rw [h0]; simp), if_pos (List.any_eq_true.2 ⟨p, List.mem_of_getElem? h, hb⟩)]
theorem any_badP {m : Nat} (hm : pl.length = m) (h : ∀ (i : Nat) p, i < m → pl[i]? = some p → badP n p = false) : pl.any (badP n) = false := by
  rw [List.any_eq_false]
  intro x hx
  obtain ⟨i, hi, e⟩ := List.getElem_of_mem hx
  rw [h i x (by omega) (by rw [List.getElem?_eq_getElem hi, e])]
  simp
theorem mgE_twice (h0 : ls.any badL = false) (h1 : pl.any (badP ls.length) = false) (h2 : ¬ (ls.flatten.map posD).Nodup) : mgE ls pl = 8 := by
  unfold mgE; rw [if_neg (by rw [h0]; simp), if_neg (by rw [h1]; simp), if_pos h2]
theorem mgE_size (h0 : ls.any badL = false) (h1 : pl.any (badP ls.length) = false) (h2 : (ls.flatten.map posD).Nodup) (h3 : 5000 < ls.flatten.length) : mgE ls pl = 6 := by
  unfold mgE; rw [if_neg (by rw [h0]; simp), if_neg (by rw [h1]; simp), if_neg (fun h => h h2), if_pos h3]
theorem mgE_ok (h0 : ls.any badL = false) (h1 : pl.any (badP ls.length) = false) (h2 : (ls.flatten.map posD).Nodup) (h3 : ¬ 5000 < ls.flatten.length) : mgE ls pl = 0 := by
  unfold mgE; rw [if_neg (by rw [h0]; simp), if_neg (by rw [h1]; simp), if_neg (fun h => h h2), if_neg h3]
theorem mgE_zero (h : mgE ls pl = 0) : ls.any badL = false ∧ pl.any (badP ls.length) = false ∧ (ls.flatten.map posD).Nodup ∧ ls.flatten.length ≤ 5000 := by
  unfold mgE at h
  split at h
  · omega
  · rename_i a
    split at h
    · omega
    · rename_i b
      split at h
      · omega
      · rename_i c
        split at h
        · omega
        · exact ⟨by simpa using a, by simpa using b, Classical.byContradiction c, by omega⟩
end
/-- The total length of the first i lists. -/
def sumL (ls : List (List (Int × Int × Int))) (i : Nat) : Nat := (ls.take i).flatten.length
theorem sumL_step {ls : List (List (Int × Int × Int))} {i : Nat} {l : List (Int × Int × Int)} (h : ls[i]? = some l) : sumL ls (i + 1) = sumL ls i + l.length := by
  unfold sumL; rw [List.take_add_one, h]; simp
theorem sumL_all {ls : List (List (Int × Int × Int))} {n : Nat} (h : ls.length = n) : sumL ls n = ls.flatten.length := by unfold sumL; rw [List.take_of_length_le (by omega)]
theorem sumL_le {ls : List (List (Int × Int × Int))} {B : Nat} (hb : ∀ l ∈ ls, l.length ≤ B) : ∀ i, sumL ls i ≤ i * B
  | 0 => by simp [sumL]
  | i + 1 => by
    have ih := sumL_le hb i
    rw [Nat.add_mul, Nat.one_mul]
    rcases Nat.lt_or_ge i ls.length with h | h
    · have hl : ls[i]? = some ls[i] := List.getElem?_eq_getElem h
      rw [sumL_step hl]
      have := hb _ (List.mem_of_getElem? hl)
      omega
    · have : sumL ls (i + 1) = sumL ls i := by unfold sumL; rw [List.take_of_length_le (by omega), List.take_of_length_le (by omega)]
      omega
theorem badL_bad {l : List (Int × Int × Int)} : badL l = true ↔ l = [] ∨ rightC l = false := by
  unfold badL; cases l <;> cases h : rightC _ <;> simp [h]
theorem badL_good {l : List (Int × Int × Int)} : badL l = false ↔ l ≠ [] ∧ rightC l = true := by
  unfold badL; cases l <;> cases h : rightC _ <;> simp [h]
end Go.Proofs.Ytenckggfgbkfnaa
end
section
namespace Go.Proofs.Ytenckggfgbkfnaa
open Go Go.RowKit
def ltM (p q : List (Int × Int × Int)) : Bool := decide (cmpL (p.take 1) (q.take 1) < 0)
theorem ltM_bef {p q : List (Int × Int × Int)} (hp : p ≠ []) (hq : q ≠ []) (hne : posD (p.headD (0, 0, 0)) ≠ posD (q.headD (0, 0, 0))) : ltM p q = hdBef p q := by
  cases p with
  | nil => exact absurd rfl hp
  | cons a p =>
    cases q with
    | nil => exact absurd rfl hq
    | cons b q =>
      unfold ltM hdBef cBef befP
      unfold posD at hne
      simp only [List.headD_cons, ne_eq, Prod.mk.injEq] at hne
      simp only [List.take_succ_cons, List.take_zero, List.headD_cons]
      refine decide_eq_decide.2 ?_
      unfold cmpL
      have hab : a ≠ b := fun e => hne (by rw [e]; exact ⟨rfl, rfl⟩)
      rw [if_neg hab]
      unfold cmpC cmpO cmpP orI cmpI
      (repeat' split) <;> omega
/-- One step of an insertion: what is out, and whether the pattern is in it. -/
def stepI (p : List (Int × Int × Int)) (s : List (List (Int × Int × Int)) × Bool) (x : List (Int × Int × Int)) : List (List (Int × Int × Int)) × Bool := if (!s.2 && ltM p x) = true then (s.1 ++ [p] ++ [x], true) else (s.1 ++ [x], s.2)
def insW (L : List (List (Int × Int × Int))) (p : List (Int × Int × Int)) (k : Nat) : List (List (Int × Int × Int)) × Bool := (L.take k).foldl (stepI p) ([], false)
theorem insW_step {L : List (List (Int × Int × Int))} {p x : List (Int × Int × Int)} {k : Nat} (h : L[k]? = some x) : insW L p (k + 1) = stepI p (insW L p k) x := by
  unfold insW; rw [List.take_add_one, h, List.foldl_append]; rfl
def insF (L : List (List (Int × Int × Int))) (p : List (Int × Int × Int)) : List (List (Int × Int × Int)) := if (insW L p L.length).2 = true then (insW L p L.length).1 else (insW L p L.length).1 ++ [p]
theorem insW_len {L : List (List (Int × Int × Int))} {p : List (Int × Int × Int)} : ∀ {k : Nat}, k ≤ L.length → (insW L p k).1.length = k + (if (insW L p k).2 = true then 1 else 0)
  | 0, _ => by simp [insW]
  | k + 1, hk => by
    have hx : L[k]? = some L[k] := List.getElem?_eq_getElem (by omega)
    have ih := insW_len (L := L) (p := p) (k := k) (by omega)
    rw [insW_step hx]
    unfold stepI
    split
    · rename_i h
      simp only [Bool.and_eq_true, Bool.not_eq_true'] at h
      rw [h.1] at ih
      simp at ih ⊢
      omega
    · simp only [List.length_append, List.length_cons, List.length_nil, ih]; omega
def insH (p : List (Int × Int × Int)) : List (List (Int × Int × Int)) → List (List (Int × Int × Int))
  | [] => [p]
  | x :: L => if ltM p x = true then p :: x :: L else x :: insH p L
theorem fold_done (p : List (Int × Int × Int)) : ∀ (L o : List (List (Int × Int × Int))), L.foldl (stepI p) (o, true) = (o ++ L, true)
  | [], o => by simp
  | x :: L, o => by
    rw [List.foldl_cons]
    have : stepI p (o, true) x = (o ++ [x], true) := by unfold stepI; simp
    rw [this, fold_done p L]
    simp
theorem fold_ins (p : List (Int × Int × Int)) : ∀ (L o : List (List (Int × Int × Int))), (if (L.foldl (stepI p) (o, false)).2 = true then (L.foldl (stepI p) (o, false)).1 else (L.foldl (stepI p) (o, false)).1 ++ [p]) = o ++ insH p L
  | [], o => by simp [insH]
  | x :: L, o => by
    rw [List.foldl_cons]
    by_cases h : ltM p x = true
    · have : stepI p (o, false) x = (o ++ [p] ++ [x], true) := by unfold stepI; simp [h]
      rw [this, fold_done]
      simp [insH, h]
    · have : stepI p (o, false) x = (o ++ [x], false) := by unfold stepI; simp [h]
      rw [this, fold_ins p L]
      simp [insH, h]
theorem insF_eq (L : List (List (Int × Int × Int))) (p : List (Int × Int × Int)) : insF L p = insH p L := by
  unfold insF insW
  rw [List.take_of_length_le (Nat.le_refl _), fold_ins]
  simp
theorem insH_mem {p q : List (Int × Int × Int)} : ∀ {L : List (List (Int × Int × Int))}, q ∈ insH p L ↔ q = p ∨ q ∈ L
  | [] => by simp [insH]
  | x :: L => by
    unfold insH
    split
    · simp
    · rw [List.mem_cons, insH_mem, List.mem_cons]
      constructor
      · rintro (h | h | h)
        · exact .inr (.inl h)
        · exact .inl h
        · exact .inr (.inr h)
      · rintro (h | h | h)
        · exact .inr (.inl h)
        · exact .inl h
        · exact .inr (.inr h)
theorem hdBef_tr {a b c : List (Int × Int × Int)} (h1 : hdBef a b = true) (h2 : hdBef b c = true) : hdBef a c = true := cBef_tr h1 h2
theorem hdBef_or {a b : List (Int × Int × Int)} (h : hdBef a b = false) (hne : posD (a.headD (0, 0, 0)) ≠ posD (b.headD (0, 0, 0))) : hdBef b a = true := by
  unfold hdBef cBef befP at *
  unfold posD at hne
  simp only [ne_eq, Prod.mk.injEq, decide_eq_false_iff_not, decide_eq_true_eq] at *
  omega
theorem insH_sorted {p : List (Int × Int × Int)} (hp : p ≠ []) : ∀ {L : List (List (Int × Int × Int))}, L.Pairwise (fun a b => hdBef a b = true) → (∀ x ∈ L, x ≠ [] ∧ posD (p.headD (0, 0, 0)) ≠ posD (x.headD (0, 0, 0))) → (insH p L).Pairwise (fun a b => hdBef a b = true)
  | [], _, _ => by simp [insH]
  | x :: L, h, hx => by
    obtain ⟨h1, h2⟩ := List.pairwise_cons.1 h
    obtain ⟨x1, x2⟩ := hx x (by simp)
    have he := ltM_bef hp x1 x2
    unfold insH
    split
    · rename_i hl
      rw [he] at hl
      refine List.pairwise_cons.2 ⟨fun y hy => ?_, h⟩
      rcases List.mem_cons.1 hy with rfl | hy
      · exact hl
      · exact hdBef_tr hl (h1 y hy)
    · rename_i hl
      rw [he] at hl
      refine List.pairwise_cons.2 ⟨fun y hy => ?_, insH_sorted hp h2 fun y hy => hx y (by simp [hy])⟩
      rcases insH_mem.1 hy with rfl | hy
      · exact hdBef_or (by simpa using hl) x2
      · exact h1 y hy
/-- The list as the reference builds it. -/
def outN (ls : List (List (Int × Int × Int))) (f : Nat → Nat) : Nat → List (List (Int × Int × Int))
  | 0 => []
  | i + 1 => if (catN ls (fun k => f k == i) ls.length).length = 0 then outN ls f i else insF (outN ls f i) (patR ls f i)
theorem outN_len (ls : List (List (Int × Int × Int))) (f : Nat → Nat) : ∀ i, (outN ls f i).length ≤ i
  | 0 => by simp [outN]
  | i + 1 => by
    have ih := outN_len ls f i
    unfold outN
    split
    · omega
    · unfold insF
      have := insW_len (L := outN ls f i) (p := patR ls f i) (Nat.le_refl _)
      split
      · rename_i h; rw [this, if_pos h]; omega
      · rename_i h; rw [List.length_append, this, if_neg h]; simp; omega
section
variable {ls : List (List (Int × Int × Int))} {pl : List (Int × Int)} {f : Nat → Nat}
theorem cat_used (hne : ∀ l ∈ ls, l ≠ []) {i : Nat} : (catN ls (fun k => f k == i) ls.length).length = 0 ↔ ¬ ∃ k, k < ls.length ∧ f k = i := by
  rw [List.length_eq_zero_iff, List.eq_nil_iff_forall_not_mem]
  constructor
  · rintro h ⟨k, hk, e⟩
    have hl : ls[k]? = some ls[k] := List.getElem?_eq_getElem hk
    obtain ⟨c, hc⟩ := List.exists_mem_of_ne_nil _ (hne _ (List.mem_of_getElem? hl))
    exact h c (catN_mem.2 ⟨k, _, hk, by simpa using e, hl, hc⟩)
  · intro h c hc
    obtain ⟨k, l, hk, hp, _⟩ := catN_mem.1 hc
    exact h ⟨k, hk, by simpa using hp⟩
theorem outN_is (hn : (ls.flatten.map posD).Nodup) (hne : ∀ l ∈ ls, l ≠ []) : ∀ i, (outN ls f i).Pairwise (fun a b => hdBef a b = true) ∧ ∀ q, q ∈ outN ls f i ↔ ∃ r, r < i ∧ (∃ k, k < ls.length ∧ f k = r) ∧ q = patR ls f r
  | 0 => by simp [outN]
  | i + 1 => by
    obtain ⟨h1, h2⟩ := outN_is hn hne i
    unfold outN
    by_cases hu : (catN ls (fun k => f k == i) ls.length).length = 0
    · rw [if_pos hu]
      refine ⟨h1, fun q => ?_⟩
      rw [h2 q]
      constructor
      · rintro ⟨r, hr, h⟩; exact ⟨r, by omega, h⟩
      · rintro ⟨r, hr, h, e⟩
        rcases Nat.lt_or_ge r i with hlt | hge
        · exact ⟨r, hlt, h, e⟩
        · obtain rfl : r = i := by omega
          exact absurd h ((cat_used hne).1 hu)
    · rw [if_neg hu, insF_eq]
      have hu' : ∃ k, k < ls.length ∧ f k = i := Classical.byContradiction fun h => hu ((cat_used hne).2 h)
      obtain ⟨k0, hk0, e0⟩ := hu'
      have hpn : patR ls f i ≠ [] := by rw [← e0]; exact patR_ne hne hk0
      refine ⟨insH_sorted hpn h1 fun x hx => ?_, fun q => ?_⟩
      · obtain ⟨r, hr, ⟨k, hk, e⟩, rfl⟩ := (h2 x).1 hx
        have hxn : patR ls f r ≠ [] := by rw [← e]; exact patR_ne hne hk
        refine ⟨hxn, ?_⟩
        obtain ⟨a, l, ha, ea, hl, hc⟩ := patR_mem.1 (headD_mem hpn)
        obtain ⟨b, l', hb, eb, hl', hc'⟩ := patR_mem.1 (headD_mem hxn)
        exact two_apart hn hl hl' (fun e => by rw [e] at ea; omega) hc hc'
      · rw [insH_mem, h2 q]
        constructor
        · rintro (rfl | ⟨r, hr, h, e⟩)
          · exact ⟨i, by omega, ⟨k0, hk0, e0⟩, rfl⟩
          · exact ⟨r, by omega, h, e⟩
        · rintro ⟨r, hr, h, e⟩
          rcases Nat.lt_or_ge r i with hlt | hge
          · exact .inr ⟨r, hlt, h, e⟩
          · obtain rfl : r = i := by omega
            exact .inl e
theorem outN_mg (ht : Tells ls.length pl f) (hb : ∀ k, k < ls.length → f k < ls.length) (hn : (ls.flatten.map posD).Nodup) (hne : ∀ l ∈ ls, l ≠ []) : IsMg ls pl (outN ls f ls.length) := by
  obtain ⟨h1, h2⟩ := outN_is (f := f) hn hne ls.length
  refine ⟨h1, fun q => ?_⟩
  rw [h2 q]
  constructor
  · rintro ⟨r, _, ⟨k, hk, rfl⟩, rfl⟩
    exact ⟨k, hk, patR_cls ht hk⟩
  · rintro ⟨i, hi, rfl⟩
    exact ⟨f i, hb i hi, ⟨i, hi, rfl⟩, (patR_cls ht hi).symm⟩
theorem patR_ok (hg : ls.any badL = false) (hn : (ls.flatten.map posD).Nodup) (hs : ls.flatten.length ≤ 5000) (r : Nat) : (∀ c ∈ catN ls (fun k => f k == r) ls.length, Pt c.1 c.2.1 ∧ 1 ≤ c.2.2 ∧ c.2.2 ≤ 7) ∧ ((catN ls (fun k => f k == r) ls.length).map posD).Nodup ∧ (catN ls (fun k => f k == r) ls.length).length ≤ 5000 := by
  refine ⟨fun c hc => ?_, cat_nodup hn, ?_⟩
  · obtain ⟨k, l, hk, _, hl, hm⟩ := catN_mem.1 hc
    have hb : badL l = false := by
      have := List.any_eq_false.1 hg l (List.mem_of_getElem? hl)
      simpa using this
    obtain ⟨j, hj, e⟩ := List.getElem_of_mem hm
    have := rightC_elem (x := c.1) (y := c.2.1) (s := c.2.2) (badL_good.1 hb).2 (by rw [List.getElem?_eq_getElem hj, e])
    exact this
  · have h := (catN_sub (ls := ls) (p := fun k => f k == r) (Nat.le_refl _)).length_le
    rw [List.take_of_length_le (Nat.le_refl _)] at h
    omega
end
/-- Two patterns share a position. -/
def nearP (l r : List (Int × Int × Int)) : Bool := l.any fun a => r.any (nrD 0 a)
theorem nearP_iff {l r : List (Int × Int × Int)} : nearP l r = true ↔ ∃ c ∈ l, ∃ e ∈ r, posD c = posD e := by
  unfold nearP
  rw [List.any_eq_true]
  constructor
  · rintro ⟨c, hc, h⟩
    obtain ⟨e, he, h⟩ := List.any_eq_true.1 h
    refine ⟨c, hc, e, he, ?_⟩
    unfold nrD at h
    simp only [decide_eq_true_eq] at h
    unfold posD
    exact Prod.ext (by simp only; omega) (by simp only; omega)
  · rintro ⟨c, hc, e, he, h⟩
    refine ⟨c, hc, List.any_eq_true.2 ⟨e, he, ?_⟩⟩
    unfold posD at h
    injection h with h1 h2
    unfold nrD
    simp only [decide_eq_true_eq]
    omega
theorem posT_next {ls : List (List (Int × Int × Int))} {i : Nat} {l : List (Int × Int × Int)} (hl : ls[i]? = some l) (hr : rightC l = true) (h0 : (posT ls i).Nodup) (h : ∀ (k : Nat) x, k < i → ls[k]? = some x → ∀ c ∈ l, ∀ e ∈ x, posD c ≠ posD e) : (posT ls (i + 1)).Nodup := by
  rw [posT_step hl, List.nodup_append]
  refine ⟨h0, (ssc_iff.1 (rightC_sorted hr)).2, fun a ha b hb e => ?_⟩
  unfold posT at ha
  obtain ⟨c, hc, rfl⟩ := List.mem_map.1 ha
  obtain ⟨x, hx, hcx⟩ := List.mem_flatten.1 hc
  obtain ⟨d, hd, rfl⟩ := List.mem_map.1 hb
  obtain ⟨k, hk, e'⟩ := List.getElem_of_mem hx
  rw [List.length_take] at hk
  rw [List.getElem_take] at e'
  exact h k x (by omega) (by rw [List.getElem?_eq_getElem (by omega), e']) d hd c hcx e.symm
theorem lnk_swap {n : Nat} {pl : List (Int × Int)} {a b : Int} {f : Nat → Nat} (h : Tells n (pl ++ [(b, a)]) f) : Tells n (pl ++ [(a, b)]) f := by
  have key : ∀ {a b : Int} {i k : Nat}, Lnk n (pl ++ [(b, a)]) i k → Lnk n (pl ++ [(a, b)]) i k := by
    intro a b i k g
    induction g with
    | refl h => exact .refl h
    | pair hp h1 h2 =>
      rcases List.mem_append.1 hp with hp | hp
      · exact .pair (List.mem_append_left _ hp) h1 h2
      · rename_i i k _
        have e : (i : Int) = b ∧ (k : Int) = a := by simpa using hp
        exact (Lnk.pair (by simp [e.1, e.2]) h2 h1).symm
    | symm _ ih => exact ih.symm
    | trans _ _ ih1 ih2 => exact ih1.trans ih2
  intro i k hi hk
  rw [h i k hi hk]
  exact ⟨key, key⟩
end Go.Proofs.Ytenckggfgbkfnaa
end
section
namespace Go.Proofs.Ytenckggfgbkfnaa
open Go Go.RowKit
/-- Which cells of a the reference picks. -/
def pickR (a b : List (Int × Int × Int)) (q : Bool) : List (Int × Int × Int) := a.filter fun c => (getC b c.1 c.2.1 != 0) == q
theorem getC_ne {b : List (Int × Int × Int)} {x y : Int} (h : rightC b = true) : (getC b x y != 0) = true ↔ ∃ z ∈ b, z.1 = x ∧ z.2.1 = y := by
  rw [bne_iff_ne]
  constructor
  · intro hn
    apply Classical.byContradiction
    intro hno
    exact hn (getC_not fun c hc e => hno ⟨c, hc, e⟩)
  · rintro ⟨⟨u, v, s⟩, hz, rfl, rfl⟩
    rw [getC_mem (rightC_sorted h) hz]
    obtain ⟨i, hi⟩ := List.getElem?_of_mem hz
    have := (rightC_elem h hi).2
    omega
theorem mem_pickR {a b : List (Int × Int × Int)} {z : Int × Int × Int} (hb : rightC b = true) : (z ∈ pickR a b true ↔ z ∈ a ∧ ∃ y ∈ b, atSame z y) ∧ (z ∈ pickR a b false ↔ z ∈ a ∧ ∀ y ∈ b, ¬ atSame z y) := by
  have hk : (∃ y ∈ b, atSame z y) ↔ (getC b z.1 z.2.1 != 0) = true := by
    rw [getC_ne hb]
    constructor
    · rintro ⟨y, hy, e⟩; exact ⟨y, hy, e.1.symm, e.2.symm⟩
    · rintro ⟨y, hy, e⟩; exact ⟨y, hy, e.1.symm, e.2.symm⟩
  unfold pickR
  rw [List.mem_filter, List.mem_filter, hk]
  refine ⟨by simp, ?_⟩
  have hk2 : (∀ y ∈ b, ¬ atSame z y) ↔ ¬ (getC b z.1 z.2.1 != 0) = true := by rw [← hk]; exact ⟨fun h ⟨y, hy, e⟩ => h y hy e, fun h y hy e => h ⟨y, hy, e⟩⟩
  rw [hk2]
  simp
theorem ssc_pickR {a b : List (Int × Int × Int)} (q : Bool) (ha : SSC a) : SSC (pickR a b q) := by
  unfold pickR; exact ha.sublist List.filter_sublist
theorem pick_res {a b : List (Int × Int × Int)} (ha : rightC a = true) (hb : rightC b = true) : pickR a b true = resL 1 a b ∧ pickR a b false = resL 2 a b := by
  have sa := rightC_sorted ha
  have sb := rightC_sorted hb
  exact ⟨ssc_unique _ _ (ssc_pickR _ sa) (ssc_res 1 sa sb) fun z => by rw [(mem_pickR hb).1, mem_res1 sa sb], ssc_unique _ _ (ssc_pickR _ sa) (ssc_res 2 sa sb) fun z => by rw [(mem_pickR hb).2, mem_res2 sa sb]⟩
/-- Sorting cells at different positions. -/
theorem srt_of {m : List (Int × Int × Int)} (hn : (m.map posD).Nodup) : SSC (srtC m) := ssc_iff.2 ⟨srtC_wc m, ((srtC_perm m).map posD).nodup_iff.2 hn⟩
theorem srt_eq {m r : List (Int × Int × Int)} (hn : (m.map posD).Nodup) (hr : SSC r) (he : ∀ z, z ∈ r ↔ z ∈ m) : srtC m = r :=
  ssc_unique _ _ (srt_of hn) hr fun z => by rw [(srtC_perm m).mem_iff, he]
def okCells (m : List (Int × Int × Int)) : Prop := ∀ c ∈ m, Pt c.1 c.2.1 ∧ 1 ≤ c.2.2 ∧ c.2.2 ≤ 7
theorem okCells_right {l : List (Int × Int × Int)} (h : rightC l = true) : okCells l := fun c hc => by
  obtain ⟨i, hi⟩ := List.getElem?_of_mem hc
  obtain ⟨a, b, s⟩ := c
  exact rightC_elem h hi
theorem frBad_ok' {x y s : Int} (h : validB x y = true) (h1 : 0 ≤ s) (h2 : s ≤ 7) : frBad (x, y, s) = 0 := by unfold frBad; rw [if_pos h, if_pos ⟨h1, h2⟩]
theorem frL_cells {m : List (Int × Int × Int)} (hv : okCells m) (hn : (m.map posD).Nodup) (hl : m.length ≤ 5000) : frE m = 0 ∧ frL m = srtC m := by
  have hz : nz m = m := List.filter_eq_self.2 fun c hc => by unfold nzC; exact decide_eq_true (by have := hv c hc; omega)
  have hf : frFirst m = 0 := by
    refine frFirst_good fun i d hd => ?_
    have := hv d (List.mem_of_getElem? hd)
    obtain ⟨x, y, s⟩ := d
    exact frBad_ok' (validB_iff.2 this.1) (by have := this.2.1; simp only at this; omega) this.2.2
  have he : frE m = 0 := frE_ok hf (by rw [hz]; exact ssB_iff.2 (srt_of hn)) (by rw [hz]; exact hl)
  exact ⟨he, by rw [frL_ok he, hz]⟩
/-- What the reference's sorted returns. -/
def soE (m : List (Int × Int × Int)) : Int := if 5000 < m.length then 6 else 0
def soL (m : List (Int × Int × Int)) : List (Int × Int × Int) := if 5000 < m.length then [] else frL m
/-- Over and Xor, as the reference lists them. -/
def ovR (a b : List (Int × Int × Int)) : List (Int × Int × Int) := a ++ pickR b a false
def xoR (a b : List (Int × Int × Int)) : List (Int × Int × Int) := pickR a b false ++ pickR b a false
theorem nodup_pos {l : List (Int × Int × Int)} (h : SSC l) : (l.map posD).Nodup := (ssc_iff.1 h).2
theorem posD_same {x y : Int × Int × Int} : posD x = posD y ↔ atSame x y := by
  unfold posD atSame; rw [Prod.mk.injEq]
theorem nodup_two {a b : List (Int × Int × Int)} (ha : SSC a) (hb : SSC b) (h : ∀ x ∈ a, ∀ y ∈ b, ¬ atSame x y) : ((a ++ b).map posD).Nodup := by
  rw [List.map_append, List.nodup_append]
  refine ⟨nodup_pos ha, nodup_pos hb, fun u hu v hv e => ?_⟩
  obtain ⟨x, hx, rfl⟩ := List.mem_map.1 hu
  obtain ⟨y, hy, rfl⟩ := List.mem_map.1 hv
  exact h x hx y hy (posD_same.1 e)
section
variable {a b : List (Int × Int × Int)}
theorem ov_srt (ha : rightC a = true) (hb : rightC b = true) : ((ovR a b).map posD).Nodup ∧ srtC (ovR a b) = resL 0 a b ∧ okCells (ovR a b) := by
  have sa := rightC_sorted ha
  have sb := rightC_sorted hb
  have hn : ((ovR a b).map posD).Nodup := nodup_two sa (ssc_pickR _ sb) fun x hx y hy e => ((mem_pickR ha).2.1 hy).2 x hx (same_comm.1 e)
  refine ⟨hn, srt_eq hn (ssc_res 0 sa sb) fun z => ?_, fun c hc => ?_⟩
  · unfold ovR
    rw [mem_res0 sa sb, List.mem_append, (mem_pickR ha).2]
    exact or_congr Iff.rfl (and_congr Iff.rfl (forall_congr' fun x => imp_congr Iff.rfl (not_congr same_comm)))
  · rcases List.mem_append.1 hc with h | h
    · exact okCells_right ha c h
    · exact okCells_right hb c ((mem_pickR ha).2.1 h).1
theorem xo_srt (ha : rightC a = true) (hb : rightC b = true) : ((xoR a b).map posD).Nodup ∧ srtC (xoR a b) = resL 3 a b ∧ okCells (xoR a b) := by
  have sa := rightC_sorted ha
  have sb := rightC_sorted hb
  have hn : ((xoR a b).map posD).Nodup := nodup_two (ssc_pickR _ sa) (ssc_pickR _ sb) fun x hx y hy e => ((mem_pickR ha).2.1 hy).2 x ((mem_pickR hb).2.1 hx).1 (same_comm.1 e)
  refine ⟨hn, srt_eq hn (ssc_res 3 sa sb) fun z => ?_, fun c hc => ?_⟩
  · unfold xoR
    rw [mem_res3 sa sb, List.mem_append, (mem_pickR ha).2, (mem_pickR hb).2]
    exact or_congr Iff.rfl (and_congr Iff.rfl (forall_congr' fun x => imp_congr Iff.rfl (not_congr same_comm)))
  · rcases List.mem_append.1 hc with h | h
    · exact okCells_right ha c ((mem_pickR hb).2.1 h).1
    · exact okCells_right hb c ((mem_pickR ha).2.1 h).1
/-- What Over and Xor (k = 0, 3) of the program compute. -/
def alE (k : Nat) (a b : List (Int × Int × Int)) : Int := if rightC a = true ∧ rightC b = true then (if 5000 < (resL k a b).length then 6 else 0) else 2
def alL (k : Nat) (a b : List (Int × Int × Int)) : List (Int × Int × Int) := if alE k a b = 0 then resL k a b else []
theorem so_res {m r : List (Int × Int × Int)} (hn : (m.map posD).Nodup) (hs : srtC m = r) (hv : okCells m) : soE m = (if 5000 < r.length then 6 else 0) ∧ soL m = (if 5000 < r.length then [] else r) := by
  have hl : r.length = m.length := by rw [← hs, (srtC_perm m).length_eq]
  unfold soE soL
  rw [hl]
  refine ⟨rfl, ?_⟩
  by_cases h : 5000 < m.length
  · rw [if_pos h, if_pos h]
  · rw [if_neg h, if_neg h, (frL_cells hv hn (by omega)).2, hs]
theorem ov_ref (ha : rightC a = true) (hb : rightC b = true) : soE (ovR a b) = alE 0 a b ∧ soL (ovR a b) = alL 0 a b := by
  obtain ⟨h1, h2, h3⟩ := ov_srt ha hb
  obtain ⟨e1, e2⟩ := so_res h1 h2 h3
  have e : alE 0 a b = (if 5000 < (resL 0 a b).length then 6 else 0) := by unfold alE; rw [if_pos ⟨ha, hb⟩]
  refine ⟨by rw [e1, e], ?_⟩
  rw [e2]; unfold alL; rw [e]
  by_cases h : 5000 < (resL 0 a b).length
  · rw [if_pos h, if_pos h, if_neg (by omega)]
  · rw [if_neg h, if_neg h, if_pos rfl]
theorem xo_ref (ha : rightC a = true) (hb : rightC b = true) : soE (xoR a b) = alE 3 a b ∧ soL (xoR a b) = alL 3 a b := by
  obtain ⟨h1, h2, h3⟩ := xo_srt ha hb
  obtain ⟨e1, e2⟩ := so_res h1 h2 h3
  have e : alE 3 a b = (if 5000 < (resL 3 a b).length then 6 else 0) := by unfold alE; rw [if_pos ⟨ha, hb⟩]
  refine ⟨by rw [e1, e], ?_⟩
  rw [e2]; unfold alL; rw [e]
  by_cases h : 5000 < (resL 3 a b).length
  · rw [if_pos h, if_pos h, if_neg (by omega)]
  · rw [if_neg h, if_neg h, if_pos rfl]
theorem alE_bad (k : Nat) (h : rightC a = false ∨ rightC b = false) : alE k a b = 2 := by
  unfold alE; rw [if_neg]; rintro ⟨h1, h2⟩; rcases h with h | h
  · rw [h] at h1; cases h1
  · rw [h] at h2; cases h2
theorem alE_size {k : Nat} (ha : rightC a = true) (hb : rightC b = true) (h : 5000 < (resL k a b).length) : alE k a b = 6 := by
  unfold alE; rw [if_pos ⟨ha, hb⟩, if_pos h]
theorem alE_ok {k : Nat} (ha : rightC a = true) (hb : rightC b = true) (h : (resL k a b).length ≤ 5000) : alE k a b = 0 := by
  unfold alE; rw [if_pos ⟨ha, hb⟩, if_neg (by omega)]
theorem alL_no {k : Nat} {e : Int} (h : alE k a b = e) (hn : e ≠ 0) : alL k a b = [] := by unfold alL; rw [if_neg (by rw [h]; exact hn)]
theorem alL_ok {k : Nat} (h : alE k a b = 0) : alL k a b = resL k a b := by unfold alL; rw [if_pos h]
/-- What And and Without (k = 1, 2) compute. -/
def pkL (k : Nat) (a b : List (Int × Int × Int)) : List (Int × Int × Int) := if rightC a = true ∧ rightC b = true then resL k a b else []
theorem pkL_no (k : Nat) (h : rightC a = false ∨ rightC b = false) : pkL k a b = [] := by
  unfold pkL; rw [if_neg]; rintro ⟨h1, h2⟩; rcases h with h | h
  · rw [h] at h1; cases h1
  · rw [h] at h2; cases h2
theorem pkL_yes (k : Nat) (ha : rightC a = true) (hb : rightC b = true) : pkL k a b = resL k a b := by unfold pkL; rw [if_pos ⟨ha, hb⟩]
end
/-- The lengths. -/
theorem evL_len (k : Nat) : ∀ (a b : List (Int × Int × Int)), (resL k a b).length ≤ a.length + b.length := by
  intro a b
  unfold resL
  induction a, b using evL.induct with
  | case1 b =>
    rw [evL_nil_left]
    induction b with
    | nil => simp
    | cons y b ih =>
      rw [List.map_cons, List.flatMap_cons, List.length_append, List.length_cons]
      have := visL_one k (none, some y)
      omega
  | case2 x a =>
    rw [evL]
    generalize x :: a = l
    induction l with
    | nil => simp
    | cons y b ih =>
      rw [List.map_cons, List.flatMap_cons, List.length_append, List.length_cons]
      have := visL_one k (some y, none)
      omega
  | case3 x a y b h ih =>
    rw [evL_lt h, List.flatMap_cons, List.length_append]
    have := visL_one k (some x, none)
    simp only [List.length_cons] at *; omega
  | case4 x a y b h h' ih =>
    rw [evL_gt h', List.flatMap_cons, List.length_append]
    have := visL_one k (none, some y)
    simp only [List.length_cons] at *; omega
  | case5 x a y b h h' ih =>
    rw [evL_eq (by simpa using h) (by simpa using h'), List.flatMap_cons, List.length_append]
    have := visL_one k (some x, some y)
    simp only [List.length_cons] at *; omega
theorem res_len1 {a b : List (Int × Int × Int)} {k : Nat} (hk : k = 1 ∨ k = 2) (ha : rightC a = true) (hb : rightC b = true) : (resL k a b).length ≤ a.length := by
  rcases hk with rfl | rfl
  · rw [← (pick_res ha hb).1]; exact List.length_filter_le _ _
  · rw [← (pick_res ha hb).2]; exact List.length_filter_le _ _
theorem res_right {a b : List (Int × Int × Int)} (k : Nat) (ha : rightC a = true) (hb : rightC b = true) (hl : (resL k a b).length ≤ 5000) : rightC (resL k a b) = true := by
  refine rightC_of hl (fun z hz => ?_) (ssc_res k (rightC_sorted ha) (rightC_sorted hb))
  unfold resL at hz
  obtain ⟨e, he, hv⟩ := List.mem_flatMap.1 hz
  have h1 := visL_pos hv
  have h2 := (evL_iff a b (rightC_sorted ha) (rightC_sorted hb) e).1 he
  rcases e with ⟨_ | x, _ | y⟩
  · exact h2.elim
  · rw [h1]; exact okCells_right hb _ h2.1
  · rw [h1]; exact okCells_right ha _ h2.1
  · rw [h1]; exact okCells_right ha _ h2.1
section
variable {a b : List (Int × Int × Int)}
theorem same_eq {l : List (Int × Int × Int)} (h : SSC l) {x y : Int × Int × Int} (hx : x ∈ l) (hy : y ∈ l) (e : atSame x y) : x = y := by
  obtain ⟨i, hi⟩ := List.getElem?_of_mem hx
  obtain ⟨j, hj⟩ := List.getElem?_of_mem hy
  rcases Nat.lt_trichotomy i j with h1 | h1 | h1
  · exact absurd e (bef_not_same (ssc_lt h hi hj h1))
  · subst h1; rw [hi] at hj; injection hj
  · exact absurd (same_comm.1 e) (bef_not_same (ssc_lt h hj hi h1))
theorem parts_whole (ha : rightC a = true) (hb : rightC b = true) : resL 0 (resL 2 a b) (resL 1 a b) = a := by
  have sa := rightC_sorted ha
  have sb := rightC_sorted hb
  have s1 := ssc_res 1 sa sb
  have s2 := ssc_res 2 sa sb
  refine ssc_unique _ _ (ssc_res 0 s2 s1) sa fun z => ?_
  rw [mem_res0 s2 s1, mem_res2 sa sb, mem_res1 sa sb]
  constructor
  · rintro (h | h)
    · exact h.1
    · exact h.1.1
  · intro hz
    by_cases h : ∃ y ∈ b, atSame z y
    · refine Or.inr ⟨⟨hz, h⟩, fun x hx e => ?_⟩
      obtain ⟨y, hy, e2⟩ := h
      have := ((mem_res2 sa sb).1 hx).2 y hy
      unfold atSame at *; omega
    · exact Or.inl ⟨hz, fun y hy e => h ⟨y, hy, e⟩⟩
theorem parts_differ (ha : rightC a = true) (hb : rightC b = true) : resL 0 (resL 2 a b) (resL 2 b a) = resL 3 a b := by
  have sa := rightC_sorted ha
  have sb := rightC_sorted hb
  have s1 := ssc_res 2 sa sb
  have s2 := ssc_res 2 sb sa
  refine ssc_unique _ _ (ssc_res 0 s1 s2) (ssc_res 3 sa sb) fun z => ?_
  rw [mem_res0 s1 s2, mem_res3 sa sb, mem_res2 sa sb, mem_res2 sb sa]
  constructor
  · rintro (h | h)
    · exact Or.inl h
    · exact Or.inr ⟨h.1.1, fun x hx e => h.1.2 x hx (same_comm.1 e)⟩
  · rintro (h | h)
    · exact Or.inl h
    · refine Or.inr ⟨⟨h.1, fun x hx e => h.2 x hx (same_comm.1 e)⟩, fun x hx e => h.2 x ((mem_res2 sa sb).1 hx).1 e⟩
theorem parts_apart (ha : rightC a = true) (hb : rightC b = true) : resL 1 (resL 2 a b) b = [] := by
  have sa := rightC_sorted ha
  have sb := rightC_sorted hb
  refine List.eq_nil_iff_forall_not_mem.2 fun z hz => ?_
  obtain ⟨h1, y, hy, e⟩ := (mem_res1 (ssc_res 2 sa sb) sb).1 hz
  exact ((mem_res2 sa sb).1 h1).2 y hy e
theorem cells_over (ha : rightC a = true) (hb : rightC b = true) (x y : Int) : getC (resL 0 a b) x y = if getC a x y = 0 then getC b x y else getC a x y := by
  have sa := rightC_sorted ha
  have sb := rightC_sorted hb
  have so := ssc_res 0 sa sb
  by_cases h1 : ∃ z ∈ a, z.1 = x ∧ z.2.1 = y
  · have hne := (getC_ne (b := a) ha).2 h1
    rw [if_neg (by simpa using hne)]
    obtain ⟨⟨u, v, s⟩, hz, rfl, rfl⟩ := h1
    rw [getC_mem sa hz, getC_mem so ((mem_res0 sa sb).2 (Or.inl hz))]
  · rw [if_pos (getC_not fun c hc e => h1 ⟨c, hc, e⟩)]
    by_cases h2 : ∃ z ∈ b, z.1 = x ∧ z.2.1 = y
    · obtain ⟨⟨u, v, s⟩, hz, rfl, rfl⟩ := h2
      rw [getC_mem sb hz, getC_mem so ((mem_res0 sa sb).2 (Or.inr ⟨hz, fun c hc e => h1 ⟨c, hc, e⟩⟩))]
    · rw [getC_not fun c hc e => h2 ⟨c, hc, e⟩, getC_not fun c hc e => ?_]
      rcases (mem_res0 sa sb).1 hc with h | h
      · exact h1 ⟨c, h, e⟩
      · exact h2 ⟨c, h.1, e⟩
end
end Go.Proofs.Ytenckggfgbkfnaa
end
