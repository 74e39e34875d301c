/- Plain arithmetic of the eight symmetries: no program in sight. -/
import Derived.WalkKit
import Derived.Laws.BitsLemmas
namespace Go.Proofs.Ytnhnkmppmicjoaa
open Go Go.RowKit
set_option linter.unusedSimpArgs false
set_option linter.unusedVariables false

theorem i64_and7 (n : Int) : bits .and .i64 n 7 = n % 8 := by
  have h7 : (BitVec.ofInt 64 7).toNat = 2 ^ 3 - 1 := by decide
  have key : (BitVec.ofInt 64 n &&& BitVec.ofInt 64 7).toNat = (n % ((2 ^ 64 : Nat) : Int)).toNat % 2 ^ 3 := by
    rw [BitVec.toNat_and, BitVec.toNat_ofInt, h7, Nat.and_two_pow_sub_one_eq_mod]
  show IntKind.i64.wrap ((BitVec.ofInt 64 n &&& BitVec.ofInt 64 7).toNat : Nat) = n % 8
  rw [key, IntKind.wrap_i64]
  omega

/-- The first number below n at which p holds; -1 if there is none. -/
def firstAt (p : Nat → Bool) : Nat → Int
  | 0 => -1
  | n + 1 => match firstAt p n with
    | -1 => if p n then n else -1
    | r => r
theorem firstAt_none {p : Nat → Bool} : ∀ {n : Nat}, (∀ i, i < n → p i = false) → firstAt p n = -1
  | 0, _ => rfl
  | n + 1, h => by
    have h1 := firstAt_none (p := p) (n := n) (fun i hi => h i (by omega))
    simp [firstAt, h1, h n (by omega)]
theorem firstAt_nonneg {p : Nat → Bool} {i : Nat} (hi : p i = true) (hj : ∀ j, j < i → p j = false) : ∀ {n : Nat}, i < n → firstAt p n = (i : Int)
  | 0, h => absurd h (by omega)
  | n + 1, h => by
    by_cases e : i = n
    · subst e
      have h1 := firstAt_none (p := p) (n := i) hj
      simp [firstAt, h1, hi]
    · have h1 := firstAt_nonneg hi hj (n := n) (by omega)
      simp only [firstAt, h1]
      split
      · rename_i h2; omega
      · rename_i h2; rfl
theorem firstAt_congr {p q : Nat → Bool} : ∀ {n : Nat}, (∀ i, i < n → p i = q i) → firstAt p n = firstAt q n
  | 0, _ => rfl
  | n + 1, h => by
    simp only [firstAt]
    rw [firstAt_congr (p := p) (q := q) (n := n) (fun i hi => h i (by omega)), h n (by omega)]

/-- The program's table of matrices. -/
def mat (r j : Nat) : Int := [1, 0, 0, 1, 0, -1, 1, 0, -1, 0, 0, -1, 0, 1, -1, 0, -1, 0, 0, 1, 0, -1, -1, 0, 1, 0, 0, -1, 0, 1, 1, 0].getD (r * 4 + j) 0
def r8 (k : Int) : Nat := (k % 8).toNat
theorem r8_lt (k : Int) : r8 k < 8 := by unfold r8; omega
theorem r8_cast (k : Int) : ((r8 k : Nat) : Int) = k % 8 := by unfold r8; omega
/-- What Apply computes. -/
def app (k x y : Int) : Int × Int :=
  (wrap64 (wrap64 (mat (r8 k) 0 * x) + wrap64 (mat (r8 k) 1 * y)), wrap64 (wrap64 (mat (r8 k) 2 * x) + wrap64 (mat (r8 k) 3 * y)))
/-- The number of a matrix in the table. -/
def matP (a b c d : Int) (r : Nat) : Bool := decide (mat r 0 = a ∧ mat r 1 = b ∧ mat r 2 = c ∧ mat r 3 = d)
def matIx (a b c d : Int) : Int := firstAt (matP a b c d) 8
theorem first_step {p : Nat → Bool} {j : Nat} (h : ∀ r, r < j → p r = false) (hj : p j = false) : ∀ r, r < j + 1 → p r = false := by
  intro r hr
  by_cases e : r = j
  · rw [e]; exact hj
  · exact h r (by omega)
/-- What Compose computes. -/
def comp (a b : Int) : Int :=
  let x := app b (app a 1 0).1 (app a 1 0).2
  let y := app b (app a 0 1).1 (app a 0 1).2
  matIx x.1 y.1 x.2 y.2
/-- What Inverse computes. -/
def invP (k : Int) (i : Nat) : Bool := decide (comp k i = 0)
def orZero (r : Int) : Int := if r = -1 then 0 else r
def inv (k : Int) : Int := orZero (firstAt (invP k) 8)

/-- What the reference's quarter turn does. -/
def quart : Nat → Int × Int → Int × Int
  | 0, p => p
  | n + 1, p => (wrap64 (-(quart n p).2), (quart n p).1)
/-- What the reference's Apply computes. -/
def rapp (k x y : Int) : Int × Int := if 4 ≤ k % 8 then quart (k % 8 - 4).toNat (wrap64 (-x), y) else quart (k % 8).toNat (x, y)
/-- What the reference's find and Compose compute. -/
def rfindP (x y : Int) (k : Nat) : Bool := decide ((rapp k 1 2).1 = x ∧ (rapp k 1 2).2 = y)
def rfind (x y : Int) : Int := orZero (firstAt (rfindP x y) 8)
def rcomp (a b : Int) : Int := let p := rapp a 1 2; let q := rapp b p.1 p.2; rfind q.1 q.2
def rinvP (k : Int) (i : Nat) : Bool := decide (rcomp k i = 0)
def rinv (k : Int) : Int := orZero (firstAt (rinvP k) 8)
theorem orZero_found {p : Nat → Bool} {i n : Nat} (hi : p i = true) (hj : ∀ j, j < i → p j = false) (h : i < n) : orZero (firstAt p n) = (i : Int) := by
  rw [firstAt_nonneg hi hj h]; unfold orZero; rw [if_neg (by omega)]
theorem orZero_none {p : Nat → Bool} {n : Nat} (h : ∀ i, i < n → p i = false) : orZero (firstAt p n) = 0 := by
  rw [firstAt_none h]; rfl

theorem r8_cases (k : Int) : k % 8 = 0 ∨ k % 8 = 1 ∨ k % 8 = 2 ∨ k % 8 = 3 ∨ k % 8 = 4 ∨ k % 8 = 5 ∨ k % 8 = 6 ∨ k % 8 = 7 := by omega
def I64 (n : Int) : Prop := -9223372036854775808 ≤ n ∧ n ≤ 9223372036854775807
theorem app_mod (k x y : Int) : app k x y = app (k % 8) x y := by unfold app r8; rw [Int.emod_emod_of_dvd _ (by decide)]
theorem rapp_mod (k x y : Int) : rapp k x y = rapp (k % 8) x y := by unfold rapp; rw [Int.emod_emod_of_dvd _ (by decide)]
/-- Both applications agree. -/
theorem app_eq (k x y : Int) (hx : I64 x) (hy : I64 y) : app k x y = rapp k x y := by
  rw [app_mod, rapp_mod]
  unfold I64 at hx hy
  rcases r8_cases k with h | h | h | h | h | h | h | h <;> rw [h] <;>
    simp [app, rapp, r8, mat, quart, wrap64] <;> omega
end Go.Proofs.Ytnhnkmppmicjoaa
