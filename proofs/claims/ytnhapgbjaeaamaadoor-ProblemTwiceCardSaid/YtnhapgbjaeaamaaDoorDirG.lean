/- Plain: the box of a pattern and the states of its positions, row by row. No program in sight. -/
import Derived.Test.YtnhapgbjaeaamaaDoorPLN
import Derived.Test.YtnhapgbjaeaamaaDoorAlgH
namespace Go.Proofs.YtnhapgbjaeaamaaDoor
open Go Go.RowKit
set_option linter.unusedSimpArgs false
set_option linter.unusedVariables false
/-- The states of a rectangle of positions, row by row. -/
def gridL (p : List (Int × Int × Int)) (X Y : Int) (W h : Nat) : List Int := (rectL X Y W h).map fun q => getC p q.1 q.2
theorem row_at {X y : Int} {W i : Nat} (hi : i < W) : (rowL X y W)[i]? = some (X + (i : Nat), y) := by
  unfold rowL; rw [List.getElem?_map, List.getElem?_range hi]; rfl
theorem rect_at {X Y : Int} {W i : Nat} (hi : i < W) : ∀ {h j : Nat}, j < h → (rectL X Y W h)[j * W + i]? = some (X + (i : Nat), Y + (j : Nat))
  | 0, j, hj => absurd hj (by omega)
  | h + 1, j, hj => by
    rw [rect_step]
    rcases Nat.lt_or_ge j h with g | g
    · have : j * W + i < h * W := by
        have := Nat.mul_le_mul_right W (show j + 1 ≤ h from g)
        rw [Nat.add_mul, Nat.one_mul] at this; omega
      rw [List.getElem?_append_left (by rw [rect_len]; exact this)]
      exact rect_at hi g
    · obtain rfl : j = h := by omega
      rw [List.getElem?_append_right (by rw [rect_len]; omega), rect_len, show j * W + i - j * W = i by omega]
      exact row_at hi
theorem grid_len (p : List (Int × Int × Int)) (X Y : Int) (W h : Nat) : (gridL p X Y W h).length = h * W := by unfold gridL; rw [List.length_map, rect_len]
theorem grid_at {p : List (Int × Int × Int)} {X Y : Int} {W h i j : Nat} (hi : i < W) (hj : j < h) : (gridL p X Y W h)[j * W + i]? = some (getC p (X + (i : Nat)) (Y + (j : Nat))) := by
  unfold gridL; rw [List.getElem?_map, rect_at hi hj]; rfl
theorem grid_zero (X Y : Int) (W h : Nat) : gridL [] X Y W h = List.replicate (h * W) 0 := by
  unfold gridL
  rw [List.eq_replicate_iff]
  refine ⟨by rw [List.length_map, rect_len], fun b hb => ?_⟩
  obtain ⟨q, _, rfl⟩ := List.mem_map.1 hb
  rfl
theorem getC_snoc_other : ∀ {l : List (Int × Int × Int)} {c : Int × Int × Int} {x y : Int}, ¬(c.1 = x ∧ c.2.1 = y) → getC (l ++ [c]) x y = getC l x y
  | [], c, x, y, h => by
    show (if c.1 = x ∧ c.2.1 = y then c.2.2 else getC [] x y) = getC [] x y
    rw [if_neg h]
  | d :: l, c, x, y, h => by
    show (if d.1 = x ∧ d.2.1 = y then d.2.2 else getC (l ++ [c]) x y) = (if d.1 = x ∧ d.2.1 = y then d.2.2 else getC l x y)
    rw [getC_snoc_other h]
theorem getC_snoc_same : ∀ {l : List (Int × Int × Int)} {c : Int × Int × Int}, posD c ∉ l.map posD → getC (l ++ [c]) c.1 c.2.1 = c.2.2
  | [], c, _ => by
    show (if c.1 = c.1 ∧ c.2.1 = c.2.1 then c.2.2 else getC [] _ _) = _
    rw [if_pos ⟨rfl, rfl⟩]
  | d :: l, c, h => by
    rw [List.map_cons, List.mem_cons, not_or] at h
    show (if d.1 = c.1 ∧ d.2.1 = c.2.1 then d.2.2 else getC (l ++ [c]) c.1 c.2.1) = _
    rw [if_neg, getC_snoc_same h.2]
    rintro ⟨e1, e2⟩
    exact h.1 (by unfold posD; rw [e1, e2])
theorem pos_fresh {p : List (Int × Int × Int)} {k : Nat} {c : Int × Int × Int} (hS : SSC p) (hk : p[k]? = some c) : posD c ∉ (p.take k).map posD := by
  intro hm
  have hn := (ssc_iff.1 hS).2
  rw [List.map_take] at hm
  exact take_new hn (by rw [List.getElem?_map, hk]; rfl) hm
theorem grid_set {p : List (Int × Int × Int)} {X Y : Int} {W h i j k : Nat} {x y s : Int} (hS : SSC p) (hk : p[k]? = some (x, y, s)) (hi : i < W) (hj : j < h) (hx : x = X + (i : Nat)) (hy : y = Y + (j : Nat)) :
    (gridL (p.take k) X Y W h).set (j * W + i) s = gridL (p.take (k + 1)) X Y W h := by
  have ht : p.take (k + 1) = p.take k ++ [(x, y, s)] := by rw [List.take_add_one, hk]; rfl
  have hr := rect_at (X := X) (Y := Y) hi hj
  rw [← hx, ← hy] at hr
  apply List.ext_getElem?
  intro t
  rw [ht]
  unfold gridL
  rw [List.getElem?_set, List.length_map, List.getElem?_map, List.getElem?_map]
  by_cases e : j * W + i = t
  · subst e
    rw [if_pos rfl, hr, if_pos (List.getElem?_eq_some_iff.1 hr).1]
    simp only [Option.map_some, Option.some.injEq]
    exact (getC_snoc_same (c := (x, y, s)) (pos_fresh hS hk)).symm
  · rw [if_neg e]
    cases hq : (rectL X Y W h)[t]? with
    | none => rfl
    | some q =>
      simp only [Option.map_some, Option.some.injEq]
      refine (getC_snoc_other ?_).symm
      rintro ⟨e1, e2⟩
      simp only at e1 e2
      have hn := rect_nodup X Y W h
      obtain ⟨l1, g1⟩ := List.getElem?_eq_some_iff.1 hr
      obtain ⟨l2, g2⟩ := List.getElem?_eq_some_iff.1 hq
      have hpw := List.pairwise_iff_getElem.1 hn
      have hqe : q = (x, y) := Prod.ext e1.symm e2.symm
      rcases Nat.lt_or_gt_of_ne e with hlt | hgt
      · exact hpw _ _ l1 l2 hlt (by rw [g1, g2, hqe])
      · exact hpw _ _ l2 l1 hgt (by rw [g1, g2, hqe])
/-- A box that holds a pattern. -/
structure BoxOf (p : List (Int × Int × Int)) (X Y : Int) (W h : Nat) : Prop where
  cells : ∀ c ∈ p, (X ≤ c.1 ∧ c.1 < X + W) ∧ Y ≤ c.2.1 ∧ c.2.1 < Y + h
  bx : -1048576 ≤ X ∧ X ≤ 1048576 ∧ -1048576 ≤ Y ∧ Y ≤ 1048576 ∧ X + W ≤ 1048577 ∧ Y + h ≤ 1048577
theorem box_of {p : List (Int × Int × Int)} (hr : rightC p = true) : ∃ W h : Nat, arW (bxPos p) = W ∧ arH (bxPos p) = h ∧ BoxOf p (arX (bxPos p)) (arY (bxPos p)) W h := by
  by_cases h0 : p.length = 0
  · obtain rfl : p = [] := List.eq_nil_of_length_eq_zero h0
    refine ⟨0, 0, by decide, by decide, ⟨fun c hc => (by cases hc), ?_⟩⟩
    have e1 : arX (bxPos []) = 0 := by decide
    have e2 : arY (bxPos []) = 0 := by decide
    rw [e1, e2]; omega
  · obtain ⟨hok, _, h1, h2⟩ := hm_good hr (by omega)
    unfold hmX at h1
    unfold hmY at h2
    have hb : bxPos p = posC p := by unfold bxPos; rw [if_pos hr]
    rw [hb] at hok h1 h2 ⊢
    have hpt : ∀ q ∈ posC p, Pt q.1 q.2 := by
      intro q hq
      unfold arOk at hok
      rw [Bool.and_eq_true, List.all_eq_true] at hok
      have := hok.2 q hq
      unfold okP at this
      exact validB_iff.1 this
    have hne : ∃ q, q ∈ posC p := by
      cases p with
      | nil => simp at h0
      | cons c p => exact ⟨_, List.mem_map.2 ⟨c, by simp, rfl⟩⟩
    obtain ⟨q0, hq0⟩ := hne
    have lx := lo_low (posC p) (fstX (posC p))
    have ly := loY_low (posC p) (fstY (posC p))
    have gx := hi_high (posC p) (fstX (posC p))
    have gy := hiY_high (posC p) (fstY (posC p))
    have hfx : ∃ q ∈ posC p, q.1 = fstX (posC p) ∧ q.2 = fstY (posC p) := by
      cases hp : posC p with
      | nil => rw [hp] at hq0; cases hq0
      | cons q l => exact ⟨q, by simp, rfl, rfl⟩
    obtain ⟨qf, hqf, f1, f2⟩ := hfx
    have hf := hpt qf hqf
    unfold Pt at hf
    have b1 := lo_le (posC p) (fstX (posC p)) (-1048576) (fun q hq => (hpt q hq).1) (by omega)
    have b2 := loY_le (posC p) (fstY (posC p)) (-1048576) (fun q hq => (hpt q hq).2.2.1) (by omega)
    have b3 := hi_le (posC p) (fstX (posC p)) 1048576 (fun q hq => (hpt q hq).2.1) (by omega)
    have b4 := hiY_le (posC p) (fstY (posC p)) 1048576 (fun q hq => (hpt q hq).2.2.2) (by omega)
    have eW : arW (posC p) = hiX (posC p) (fstX (posC p)) - loX (posC p) (fstX (posC p)) + 1 := by unfold arW; rw [hok]; rfl
    have eH : arH (posC p) = hiY (posC p) (fstY (posC p)) - loY (posC p) (fstY (posC p)) + 1 := by unfold arH; rw [hok]; rfl
    refine ⟨(arW (posC p)).toNat, (arH (posC p)).toNat, by omega, by omega, ⟨fun c hc => ?_, by omega⟩⟩
    have hm : (c.1, c.2.1) ∈ posC p := List.mem_map.2 ⟨c, hc, rfl⟩
    have c1 := lx.2 _ hm
    have c2 := ly.2 _ hm
    have c3 := gx.2 _ hm
    have c4 := gy.2 _ hm
    simp only at c1 c2 c3 c4
    omega
theorem box_out {p : List (Int × Int × Int)} {X Y : Int} {W h : Nat} (hb : BoxOf p X Y W h) {x y : Int} (ho : x < X ∨ X + W ≤ x ∨ y < Y ∨ Y + h ≤ y) : getC p x y = 0 := by
  refine getC_not fun c hc e => ?_
  have := hb.cells c hc
  omega
theorem box_mul {W h : Nat} (hw : W ≤ 2097153) (hh : h ≤ 2097153) : W * h ≤ 4398050705409 := Nat.mul_le_mul hw hh
theorem grid_lt {W h i j : Nat} (hi : i < W) (hj : j < h) : j * W + i < h * W := by
  have := Nat.mul_le_mul_right W (show j + 1 ≤ h from hj)
  rw [Nat.add_mul, Nat.one_mul] at this; omega
end Go.Proofs.YtnhapgbjaeaamaaDoor
