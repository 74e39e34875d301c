/- Plain facts on boxes: meet, join, grow, around, the positions of a box. No program in sight. -/
import Derived.Test.YtnhnkmppmicjoaaPtP
namespace Go.Proofs.Ytnhnkmppmicjoaa
open Go Go.RowKit
set_option linter.unusedSimpArgs false
set_option linter.unusedVariables false
def Pt (x y : Int) : Prop := -1048576 ≤ x ∧ x ≤ 1048576 ∧ -1048576 ≤ y ∧ y ≤ 1048576
/-- Both boxes are valid and have a common position. -/
def meetOk (ax ay aw ah bx by' bw bh : Int) : Bool := rightB ax ay aw ah && rightB bx by' bw bh && decide (max ax bx < min (ax + aw) (bx + bw)) && decide (max ay by' < min (ay + ah) (by' + bh))
def ifB (q : Bool) (n : Int) : Int := if q = true then n else 0
def meetX (ax ay aw ah bx by' bw bh : Int) : Int := ifB (meetOk ax ay aw ah bx by' bw bh) (max ax bx)
def meetY (ax ay aw ah bx by' bw bh : Int) : Int := ifB (meetOk ax ay aw ah bx by' bw bh) (max ay by')
def meetW (ax ay aw ah bx by' bw bh : Int) : Int := ifB (meetOk ax ay aw ah bx by' bw bh) (min (ax + aw) (bx + bw) - max ax bx)
def meetH (ax ay aw ah bx by' bw bh : Int) : Int := ifB (meetOk ax ay aw ah bx by' bw bh) (min (ay + ah) (by' + bh) - max ay by')
theorem meetOk_iff {ax ay aw ah bx by' bw bh : Int} : meetOk ax ay aw ah bx by' bw bh = true ↔ rightB ax ay aw ah = true ∧ rightB bx by' bw bh = true ∧ max ax bx < min (ax + aw) (bx + bw) ∧ max ay by' < min (ay + ah) (by' + bh) := by
  unfold meetOk; simp only [Bool.and_eq_true, decide_eq_true_eq]; exact ⟨fun ⟨⟨⟨a, b⟩, c⟩, d⟩ => ⟨a, b, c, d⟩, fun ⟨a, b, c, d⟩ => ⟨⟨⟨a, b⟩, c⟩, d⟩⟩
/-- Join. -/
def joinV (qa qb : Bool) (a b c : Int) : Int := match qa, qb with
  | true, true => c
  | true, false => a
  | false, true => b
  | false, false => 0
def joinX (ax ay aw ah bx by' bw bh : Int) : Int := joinV (rightB ax ay aw ah) (rightB bx by' bw bh) ax bx (min ax bx)
def joinY (ax ay aw ah bx by' bw bh : Int) : Int := joinV (rightB ax ay aw ah) (rightB bx by' bw bh) ay by' (min ay by')
def joinW (ax ay aw ah bx by' bw bh : Int) : Int := joinV (rightB ax ay aw ah) (rightB bx by' bw bh) aw bw (max (ax + aw) (bx + bw) - min ax bx)
def joinH (ax ay aw ah bx by' bw bh : Int) : Int := joinV (rightB ax ay aw ah) (rightB bx by' bw bh) ah bh (max (ay + ah) (by' + bh) - min ay by')
/-- Grow. -/
def clampK (k : Int) : Int := max (-4194304) (min 4194304 k)
def growE (x y w h k : Int) : Int :=
  if rightB x y w h = true then
    if w + 2 * clampK k < 1 ∨ h + 2 * clampK k < 1 then 6
    else if rightB (x - clampK k) (y - clampK k) (w + 2 * clampK k) (h + 2 * clampK k) = true then 0 else 5
  else 2
def growOk (x y w h k : Int) : Bool := growE x y w h k == 0
def growX (x y w h k : Int) : Int := ifB (growOk x y w h k) (x - clampK k)
def growY (x y w h k : Int) : Int := ifB (growOk x y w h k) (y - clampK k)
def growW (x y w h k : Int) : Int := ifB (growOk x y w h k) (w + 2 * clampK k)
def growH (x y w h k : Int) : Int := ifB (growOk x y w h k) (h + 2 * clampK k)
/-- With a wider clamp the same comes out. -/
theorem grow_wide {x y w h k c : Int} (hr : rightB x y w h = true) (hc : c = max (-4194308) (min 4194308 k)) :
    (c = clampK k) ∨ (0 < c ∧ ¬(w + 2 * c < 1 ∨ h + 2 * c < 1) ∧ rightB (x - c) (y - c) (w + 2 * c) (h + 2 * c) = false ∧ growE x y w h k = 5) ∨ (c < 0 ∧ (w + 2 * c < 1) ∧ growE x y w h k = 6) := by
  have h1 := rightB_iff.1 hr
  by_cases h2 : k < -4194304
  · right; right
    refine ⟨by omega, by omega, ?_⟩
    unfold growE
    rw [if_pos hr, if_pos (by unfold clampK; omega)]
  · by_cases h3 : 4194304 < k
    · right; left
      refine ⟨by omega, by omega, rightB_no (by omega), ?_⟩
      unfold growE
      rw [if_pos hr, if_neg (by unfold clampK; omega), if_neg]
      rw [rightB_iff]; unfold clampK; omega
    · left; unfold clampK; omega
/-- The positions of a box, in order. -/
def ptAt (x y w : Int) (i : Nat) : Int × Int := (x + (i : Int) % w, y + (i : Int) / w)
def ptsAt (x y w : Int) (n : Nat) : List (Int × Int) := (List.range n).map (ptAt x y w)
def ptsOk (x y w h : Int) : Bool := rightB x y w h && decide (w * h ≤ 5000)
def ptsL (x y w h : Int) : List (Int × Int) := if ptsOk x y w h = true then ptsAt x y w (w * h).toNat else []
theorem ptsAt_succ (x y w : Int) (n : Nat) : ptsAt x y w (n + 1) = ptsAt x y w n ++ [ptAt x y w n] := by
  unfold ptsAt; rw [List.range_succ, List.map_append]; rfl
theorem ptsAt_len (x y w : Int) (n : Nat) : (ptsAt x y w n).length = n := by unfold ptsAt; simp
theorem ptAt_row {x y : Int} {w k i : Nat} (hi : i < w) : ptAt x y w (k * w + i) = (x + i, y + k) := by
  unfold ptAt
  have e1 : (k * w + i) % w = i := by rw [Nat.mul_comm, Nat.mul_add_mod]; exact Nat.mod_eq_of_lt hi
  have e2 : (k * w + i) / w = k := by rw [Nat.mul_comm, Nat.mul_add_div (by omega), Nat.div_eq_of_lt hi, Nat.add_zero]
  rw [← Int.natCast_emod, ← Int.natCast_ediv, e1, e2]
/-- Around. -/
def okP (p : Int × Int) : Bool := validB p.1 p.2
def arOk (l : List (Int × Int)) : Bool := !l.isEmpty && l.all okP
def loX (l : List (Int × Int)) (d : Int) : Int := l.foldl (fun m p => min m p.1) d
def loY (l : List (Int × Int)) (d : Int) : Int := l.foldl (fun m p => min m p.2) d
def hiX (l : List (Int × Int)) (d : Int) : Int := l.foldl (fun m p => max m p.1) d
def hiY (l : List (Int × Int)) (d : Int) : Int := l.foldl (fun m p => max m p.2) d
def fstX (l : List (Int × Int)) : Int := match l with | [] => 0 | p :: _ => p.1
def fstY (l : List (Int × Int)) : Int := match l with | [] => 0 | p :: _ => p.2
def arX (l : List (Int × Int)) : Int := ifB (arOk l) (loX l (fstX l))
def arY (l : List (Int × Int)) : Int := ifB (arOk l) (loY l (fstY l))
def arW (l : List (Int × Int)) : Int := ifB (arOk l) (hiX l (fstX l) - loX l (fstX l) + 1)
def arH (l : List (Int × Int)) : Int := ifB (arOk l) (hiY l (fstY l) - loY l (fstY l) + 1)
section
variable {l : List (Int × Int)} {j : Nat} {x y d : Int}
theorem loX_step (h : l[j]? = some (x, y)) : loX (l.take (j + 1)) d = min (loX (l.take j) d) x := by
  unfold loX; rw [List.take_add_one, List.foldl_append, h]; rfl
theorem loY_step (h : l[j]? = some (x, y)) : loY (l.take (j + 1)) d = min (loY (l.take j) d) y := by
  unfold loY; rw [List.take_add_one, List.foldl_append, h]; rfl
theorem hiX_step (h : l[j]? = some (x, y)) : hiX (l.take (j + 1)) d = max (hiX (l.take j) d) x := by
  unfold hiX; rw [List.take_add_one, List.foldl_append, h]; rfl
theorem hiY_step (h : l[j]? = some (x, y)) : hiY (l.take (j + 1)) d = max (hiY (l.take j) d) y := by
  unfold hiY; rw [List.take_add_one, List.foldl_append, h]; rfl
end
theorem fst_of {l : List (Int × Int)} {x y : Int} (h : l[0]? = some (x, y)) : fstX l = x ∧ fstY l = y := by
  cases l with
  | nil => simp at h
  | cons p l => simp at h; subst h; exact ⟨rfl, rfl⟩
theorem arOk_nil : arOk [] = false := rfl
theorem arOk_bad {l : List (Int × Int)} {j : Nat} {x y : Int} (h : l[j]? = some (x, y)) (hv : validB x y = false) : arOk l = false := by
  unfold arOk
  rw [Bool.and_eq_false_iff]
  right
  rw [List.all_eq_false]
  exact ⟨(x, y), List.mem_of_getElem? h, by unfold okP; simp [hv]⟩
theorem arOk_all {l : List (Int × Int)} {n : Nat} (hl : l.length = n) (h0 : 0 < n) (h : ∀ j x y, j < n → l[j]? = some (x, y) → validB x y = true) : arOk l = true := by
  unfold arOk
  rw [Bool.and_eq_true, List.all_eq_true]
  refine ⟨by (cases l with | nil => (simp at hl; omega) | cons _ _ => rfl), fun p hp => ?_⟩
  obtain ⟨i, hi, e⟩ := List.getElem_of_mem hp
  exact h i p.1 p.2 (by omega) (by rw [List.getElem?_eq_getElem hi, e])
/-- The least and greatest coordinates of valid positions are valid. -/
theorem lo_bound : ∀ (l : List (Int × Int)) (d : Int), (∀ p, p ∈ l → Pt p.1 p.2) → (-1048576 ≤ d ∧ d ≤ 1048576) →
    (-1048576 ≤ loX l d ∧ loX l d ≤ 1048576) ∧ (-1048576 ≤ loY l d ∧ loY l d ≤ 1048576) ∧ (-1048576 ≤ hiX l d ∧ hiX l d ≤ 1048576) ∧ (-1048576 ≤ hiY l d ∧ hiY l d ≤ 1048576)
  | [], d, _, h => ⟨h, h, h, h⟩
  | p :: l, d, hp, h => by
    have hpp := hp p (by simp)
    unfold Pt at hpp
    have h1 := lo_bound l (min d p.1) (fun q hq => hp q (by simp [hq])) (by omega)
    have h2 := lo_bound l (min d p.2) (fun q hq => hp q (by simp [hq])) (by omega)
    have h3 := lo_bound l (max d p.1) (fun q hq => hp q (by simp [hq])) (by omega)
    have h4 := lo_bound l (max d p.2) (fun q hq => hp q (by simp [hq])) (by omega)
    exact ⟨h1.1, h2.2.1, h3.2.2.1, h4.2.2.2⟩
theorem validB_iff {x y : Int} : validB x y = true ↔ Pt x y := by unfold validB Pt; simp
end Go.Proofs.Ytnhnkmppmicjoaa
