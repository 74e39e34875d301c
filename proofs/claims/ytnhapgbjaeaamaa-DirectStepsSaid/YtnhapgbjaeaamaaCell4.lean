/- The contracts of Same and Compare, of pattern and of its reference. -/
import Derived.Test.YtnhapgbjaeaamaaCell3
import Derived.Test.YtnhapgbjaeaamaaBoxAt
import Derived.Deep.RegionHeld3
namespace Go.Proofs.Ytnhapgbjaeaamaa
open Go Go.RowKit
set_option linter.unusedSimpArgs false
set_option linter.unusedVariables false
set_option maxRecDepth 100000
attribute [local go_sem ↓ high] eq_cl neq_cl eq_pt neq_pt
theorem same_ne_cl {l r : List (Int × Int × Int)} {j : Nat} {a b s a' b' s' : Int} (hx : l[j]? = some (a, b, s)) (hy : r[j]? = some (a', b', s')) (h : ¬(a = a' ∧ b = b' ∧ s = s')) : sameL l r = false :=
  sameL_ne hx hy (fun e => h (by injection e with e1 e2; injection e2 with e2 e3; exact ⟨e1, e2, e3⟩))
theorem rd_litI (w : World) (l : List Int) (cs : Array Value) (n : Nat) (hn : l.length = n) (hm : n ≤ 4611686018427387904) (hcs : cs.toList = l.flatMap encI) : Rd encI 1 (w.alloc (.cells cs 3)) (some ⟨w.heap.size, 0, none⟩) n l := by
  have h := (Own.lit encI_len w 3 w.heap.size (Nat.le_refl _) l n hn hm cs.toList hcs).rd encI_len
  simpa using h
theorem cmpC_zero' {a b : Int × Int × Int} (h : a = b) : cmpC a b = 0 := by subst h; exact cmpC_self a
theorem cmpC_y {x y s x' y' s' : Int} (h : y ≠ y') : cmpC (x, y, s) (x', y', s') = cmpI y y' := by
  unfold cmpC cmpO cmpP orI cmpI; simp only; (repeat' split) <;> omega
theorem cmpC_x {x y s x' y' s' : Int} (h : y = y') (h2 : x ≠ x') : cmpC (x, y, s) (x', y', s') = cmpI x x' := by
  unfold cmpC cmpO cmpP orI cmpI; simp only; (repeat' split) <;> omega
theorem cmpC_s {x y s x' y' s' : Int} (h : y = y') (h2 : x = x') : cmpC (x, y, s) (x', y', s') = cmpI s s' := by
  unfold cmpC cmpO cmpP orI cmpI; simp only; (repeat' split) <;> omega
end Go.Proofs.Ytnhapgbjaeaamaa
