/- The contract of pattern.From. -/
import Derived.Test.YtenckggfgbkfnaaSortC
import Derived.Test.YtenckggfgbkfnaaCell7
namespace Go.Proofs.Ytenckggfgbkfnaa
open Go Go.RowKit
set_option linter.unusedSimpArgs false
set_option linter.unusedVariables false
set_option maxRecDepth 100000
attribute [local go_sem ↓ high] eq_cl neq_cl eq_pt neq_pt
/-- All cells ahead of j are good. -/
def gdTo (l : List (Int × Int × Int)) (j : Nat) : Prop := ∀ i d, i < j → l[i]? = some d → frBad d = 0
theorem gdTo_step {l : List (Int × Int × Int)} {j : Nat} {c : Int × Int × Int} (h : gdTo l j) (hx : l[j]? = some c) (hb : frBad c = 0) : gdTo l (j + 1) := by
  intro i d hi hd
  by_cases e : i = j
  · rw [e, hx] at hd; cases hd; exact hb
  · exact h i d (by omega) hd
theorem gdTo_all {l : List (Int × Int × Int)} {n : Nat} (hl : l.length = n) (h : gdTo l n) : frFirst l = 0 :=
  frFirst_good fun i d hd => h i d (by rw [← hl]; exact (List.getElem?_eq_some_iff.1 hd).1) hd
theorem frBad_place {x y s : Int} (h : validB x y = false) : frBad (x, y, s) = 5 := by unfold frBad; rw [if_neg (by rw [h]; simp)]
theorem frBad_state {x y s : Int} (h : validB x y = true) (hs : s < 0 ∨ 8 ≤ s) : frBad (x, y, s) = 10 := by unfold frBad; rw [if_pos h, if_neg (by simp only; omega)]
theorem frBad_ok {x y s : Int} (h : validB x y = true) (h1 : 0 ≤ s) (h2 : s ≤ 7) : frBad (x, y, s) = 0 := by unfold frBad; rw [if_pos h, if_pos ⟨h1, h2⟩]
theorem nz_no {l : List (Int × Int × Int)} {j : Nat} {x y s : Int} (h : l[j]? = some (x, y, s)) (hs : ¬ 0 < s) : nz (l.take (j + 1)) = nz (l.take j) := by
  rw [nz_step h, if_neg (by unfold nzC; simpa using hs), List.append_nil]
theorem nz_yes {l : List (Int × Int × Int)} {j : Nat} {x y s : Int} (h : l[j]? = some (x, y, s)) (hs : 0 < s) : nz (l.take (j + 1)) = nz (l.take j) ++ [(x, y, s)] := by
  rw [nz_step h, if_pos (by unfold nzC; simpa using hs)]
/-- No two neighbours ahead of k stand at one position. -/
def dsTo (l : List (Int × Int × Int)) (k : Nat) : Prop := ∀ j a b, j + 1 < k → l[j]? = some a → l[j + 1]? = some b → posD a ≠ posD b
theorem dsTo_step {l : List (Int × Int × Int)} {k : Nat} {a b : Int × Int × Int} (h : dsTo l k) (hk : 1 ≤ k) (ha : l[k - 1]? = some a) (hb : l[k]? = some b) (hne : posD a ≠ posD b) : dsTo l (k + 1) := by
  intro j p q hj hp hq
  by_cases e : j + 1 = k
  · subst e
    rw [Nat.add_sub_cancel, hp] at ha
    rw [hq] at hb
    cases ha; cases hb; exact hne
  · exact h j p q (by omega) hp hq
theorem own_g {α : Type} {enc : α → List Value} {k : Nat} {e : TypeId} {B : Nat} {w : World} {A : Option Addr} {n c : Nat} {l : List α} (h : Own enc k e B w A n c l) (hn : 0 < n) : ∃ g, A = some ⟨g, 0, none⟩ := by
  rcases h.row.2 with ⟨_, h0⟩ | ⟨g, cap, cur, hv, _⟩
  · omega
  · injection hv with hv; exact ⟨g, hv⟩
end Go.Proofs.Ytenckggfgbkfnaa
