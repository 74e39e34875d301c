/- Plain facts on the group of the eight symmetries: no program in sight. -/
import Derived.Test.YtobbkclfbbblaaaDoorSymP
namespace Go.Proofs.YtobbkclfbbblaaaDoor
open Go Go.RowKit
set_option linter.unusedSimpArgs false
set_option linter.unusedVariables false
/-- Compose on the numbers from 0 to 7. -/
def cm (a b : Nat) : Nat := (comp a b).toNat
theorem comp_table : ∀ a : Nat, a < 8 → ∀ b : Nat, b < 8 → (comp (a : Int) (b : Int) = rcomp (a : Int) (b : Int) ∧ comp (a : Int) (b : Int) = ((cm a b : Nat) : Int) ∧ cm a b < 8) := by decide +kernel
theorem app_r8 (k x y : Int) : app k x y = app (r8 k : Nat) x y := by rw [app_mod, r8_cast]
theorem rapp_r8 (k x y : Int) : rapp k x y = rapp (r8 k : Nat) x y := by rw [rapp_mod, r8_cast]
theorem comp_r8 (a b : Int) : comp a b = comp (r8 a : Nat) (r8 b : Nat) := by
  unfold comp
  rw [app_r8 a, app_r8 a 0 1]
  simp only [app_r8 b]
theorem rcomp_r8 (a b : Int) : rcomp a b = rcomp (r8 a : Nat) (r8 b : Nat) := by
  unfold rcomp
  rw [rapp_r8 a]
  simp only [rapp_r8 b]
theorem comp_cm (a b : Int) : comp a b = ((cm (r8 a) (r8 b) : Nat) : Int) := by
  rw [comp_r8]; exact (comp_table _ (r8_lt a) _ (r8_lt b)).2.1
theorem comp_rcomp (a b : Int) : comp a b = rcomp a b := by
  rw [comp_r8, rcomp_r8]; exact (comp_table _ (r8_lt a) _ (r8_lt b)).1
theorem cm_lt {a b : Nat} (ha : a < 8) (hb : b < 8) : cm a b < 8 := (comp_table a ha b hb).2.2
theorem comp_nat {a b : Nat} (ha : a < 8) (hb : b < 8) : comp (a : Int) (b : Int) = ((cm a b : Nat) : Int) := (comp_table a ha b hb).2.1
theorem r8_nat {k : Nat} (h : k < 8) : r8 (k : Int) = k := by unfold r8; omega
/-- The inverse's number. -/
def iv (a : Nat) : Nat := (inv a).toNat
theorem inv_table : ∀ a : Nat, a < 8 → (inv (a : Int) = rinv (a : Int) ∧ inv (a : Int) = ((iv a : Nat) : Int) ∧ iv a < 8 ∧ cm a (iv a) = 0) := by decide +kernel
theorem inv_r8 (k : Int) : inv k = inv (r8 k : Nat) := by
  unfold inv
  rw [firstAt_congr (q := invP (r8 k : Nat))]
  intro i _
  unfold invP
  have h := comp_r8 ((r8 k : Nat) : Int) (i : Int)
  rw [r8_nat (r8_lt k)] at h
  rw [comp_r8 k i, h]
theorem rinv_r8 (k : Int) : rinv k = rinv (r8 k : Nat) := by
  unfold rinv
  rw [firstAt_congr (q := rinvP (r8 k : Nat))]
  intro i _
  unfold rinvP
  have h := rcomp_r8 ((r8 k : Nat) : Int) (i : Int)
  rw [r8_nat (r8_lt k)] at h
  rw [rcomp_r8 k i, h]
theorem inv_iv (k : Int) : inv k = ((iv (r8 k) : Nat) : Int) := by rw [inv_r8]; exact (inv_table _ (r8_lt k)).2.1
theorem inv_rinv (k : Int) : inv k = rinv k := by rw [inv_r8, rinv_r8]; exact (inv_table _ (r8_lt k)).1
theorem iv_lt {k : Nat} (h : k < 8) : iv k < 8 := (inv_table k h).2.2.1
theorem comp_inv (k : Int) : comp k (inv k) = 0 := by
  rw [comp_cm, inv_iv, r8_nat (iv_lt (r8_lt k)), (inv_table _ (r8_lt k)).2.2.2]; rfl

/-- A set of symmetries, by number, that is closed and holds 0 and all numbers of a list. -/
structure Over (l : List Int) (T : Nat → Bool) : Prop where
  zero : T 0 = true
  base : ∀ m, m ∈ l → T (r8 m) = true
  closed : ∀ a b, a < 8 → b < 8 → T a = true → T b = true → T (cm a b) = true
/-- What each closed set has to hold. -/
def Must (l : List Int) (k : Nat) : Prop := ∀ T, Over l T → T k = true
open Classical in
noncomputable def grpB (l : List Int) (k : Nat) : Bool := decide (Must l k)
theorem grpB_iff {l : List Int} {k : Nat} : grpB l k = true ↔ Must l k := by unfold grpB; simp
/-- The group, as the list of its numbers. -/
noncomputable def grp (l : List Int) : List Int := ((List.range 8).filter (grpB l)).map fun k => ((k : Nat) : Int)
theorem must_zero (l : List Int) : Must l 0 := fun _ h => h.zero
theorem must_base {l : List Int} {m : Int} (h : m ∈ l) : Must l (r8 m) := fun _ hT => hT.base m h
theorem must_comp {l : List Int} {a b : Nat} (ha : a < 8) (hb : b < 8) (h1 : Must l a) (h2 : Must l b) : Must l (cm a b) := fun _ hT => hT.closed a b ha hb (h1 _ hT) (h2 _ hT)
/-- A closed set that holds no more than it must is the group. -/
theorem grp_of {l : List Int} {S : Nat → Bool} (h : Over l S) (hS : ∀ k, k < 8 → S k = true → Must l k) : ∀ k, k < 8 → grpB l k = S k := by
  intro k hk
  rw [Bool.eq_iff_iff, grpB_iff]
  exact ⟨fun hm => hm _ h, fun hs => hS k hk hs⟩
theorem over_grp (l : List Int) : Over l (grpB l) :=
  ⟨grpB_iff.2 (must_zero l), fun _ hm => grpB_iff.2 (must_base hm), fun _ _ ha hb h1 h2 => grpB_iff.2 (must_comp ha hb (grpB_iff.1 h1) (grpB_iff.1 h2))⟩
end Go.Proofs.YtobbkclfbbblaaaDoor
