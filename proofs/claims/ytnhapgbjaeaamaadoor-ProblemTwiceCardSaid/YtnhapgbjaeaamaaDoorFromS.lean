/- The contract of the reference's From. -/
import Derived.Test.YtnhapgbjaeaamaaDoorFromR
namespace Go.Proofs.YtnhapgbjaeaamaaDoor
open Go Go.RowKit
set_option linter.unusedSimpArgs false
set_option linter.unusedVariables false
set_option maxRecDepth 100000
attribute [local go_sem ↓ high] eq_cl neq_cl eq_pt neq_pt
theorem srtC_snoc (l : List (Int × Int × Int)) (c : Int × Int × Int) : srtC (l ++ [c]) = insC (srtC l) c := by unfold srtC; rw [List.foldl_append]; rfl
theorem gd_state {l : List (Int × Int × Int)} {n j : Nat} {x y s : Int} (h : gdTo l n) (hj : j < n) (hx : l[j]? = some (x, y, s)) : 0 ≤ s ∧ s ≤ 7 := by
  have := h j _ hj hx
  unfold frBad at this
  split at this
  · split at this
    · rename_i h2; exact h2
    · omega
  · omega
/-- Each cell ahead of k is ahead of the next one. -/
def asTo (l : List (Int × Int × Int)) (k : Nat) : Prop := ∀ j a b, j + 1 < k → l[j]? = some a → l[j + 1]? = some b → cBef a b = true
theorem asTo_step {l : List (Int × Int × Int)} {k : Nat} {a b : Int × Int × Int} (h : asTo l k) (hk : 1 ≤ k) (ha : l[k - 1]? = some a) (hb : l[k]? = some b) (hne : cBef a b = true) : asTo l (k + 1) := by
  intro j p q hj hp hq
  by_cases e : j + 1 = k
  · subst e
    rw [Nat.add_sub_cancel, hp] at ha
    rw [hq] at hb
    cases ha; cases hb; exact hne
  · exact h j p q (by omega) hp hq
theorem ssB_of {l : List (Int × Int × Int)} {n : Nat} (hl : l.length = n) (h : asTo l n) : ssB l = true :=
  ssB_iff.2 (pairwise_of_next (r := fun a b => cBef a b = true) (fun a b c h1 h2 => cBef_tr h1 h2) l fun j a b ha hb => h j a b (by rw [← hl]; exact (List.getElem?_eq_some_iff.1 hb).1) ha hb)
theorem ssB_not {l : List (Int × Int × Int)} {k : Nat} {a b : Int × Int × Int} (hk : 1 ≤ k) (ha : l[k - 1]? = some a) (hb : l[k]? = some b) (hne : cBef a b = false) : ssB l = false := by
  rw [Bool.eq_false_iff]
  intro h
  have h1 := List.getElem?_eq_some_iff.1 ha
  have h2 := List.getElem?_eq_some_iff.1 hb
  have := (List.pairwise_iff_getElem.1 (ssB_iff.1 h)) (k - 1) k h1.1 h2.1 (by omega)
  rw [h1.2, h2.2, hne] at this; cases this
end Go.Proofs.YtnhapgbjaeaamaaDoor
