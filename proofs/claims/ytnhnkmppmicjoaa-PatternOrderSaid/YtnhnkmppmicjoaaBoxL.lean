/- Plain facts on boxes: positions of Meet and of Join; Grow there and back; the box around a box's positions. -/
import Derived.Test.YtnhnkmppmicjoaaBoxP
namespace Go.Proofs.Ytnhnkmppmicjoaa
open Go Go.RowKit
set_option linter.unusedSimpArgs false
set_option linter.unusedVariables false
section
variable {ax ay aw ah bx by' bw bh px py : Int}
theorem boxIn_iff {x y w h px py : Int} : boxInB x y w h px py = true ↔ rightB x y w h = true ∧ x ≤ px ∧ px < x + w ∧ y ≤ py ∧ py < y + h := by
  unfold boxInB; rw [Bool.and_eq_true, decide_eq_true_eq]
theorem meetOk_comm (ax ay aw ah bx by' bw bh : Int) : meetOk ax ay aw ah bx by' bw bh = meetOk bx by' bw bh ax ay aw ah := by
  rw [Bool.eq_iff_iff, meetOk_iff, meetOk_iff, Int.max_comm, Int.min_comm (a := ax + aw), Int.max_comm (a := ay), Int.min_comm (a := ay + ah)]
  exact ⟨fun ⟨a, b, c, d⟩ => ⟨b, a, c, d⟩, fun ⟨a, b, c, d⟩ => ⟨b, a, c, d⟩⟩
theorem meet_comm (ax ay aw ah bx by' bw bh : Int) : meetX ax ay aw ah bx by' bw bh = meetX bx by' bw bh ax ay aw ah ∧ meetY ax ay aw ah bx by' bw bh = meetY bx by' bw bh ax ay aw ah ∧ meetW ax ay aw ah bx by' bw bh = meetW bx by' bw bh ax ay aw ah ∧ meetH ax ay aw ah bx by' bw bh = meetH bx by' bw bh ax ay aw ah := by
  unfold meetX meetY meetW meetH
  rw [meetOk_comm ax ay aw ah]
  refine ⟨?_, ?_, ?_, ?_⟩ <;> (congr 1; omega)
theorem right0 : rightB 0 0 0 0 = false := by decide +kernel
theorem meet_in (hA : rightB ax ay aw ah = true) (hB : rightB bx by' bw bh = true) : boxInB (meetX ax ay aw ah bx by' bw bh) (meetY ax ay aw ah bx by' bw bh) (meetW ax ay aw ah bx by' bw bh) (meetH ax ay aw ah bx by' bw bh) px py = (boxInB ax ay aw ah px py && boxInB bx by' bw bh px py) := by
  have rA := rightB_iff.1 hA
  have rB := rightB_iff.1 hB
  cases hq : meetOk ax ay aw ah bx by' bw bh with
  | false =>
    have h0 : meetX ax ay aw ah bx by' bw bh = 0 ∧ meetY ax ay aw ah bx by' bw bh = 0 ∧ meetW ax ay aw ah bx by' bw bh = 0 ∧ meetH ax ay aw ah bx by' bw bh = 0 := by
      unfold meetX meetY meetW meetH; rw [hq]; exact ⟨rfl, rfl, rfl, rfl⟩
    rw [h0.1, h0.2.1, h0.2.2.1, h0.2.2.2]
    have e1 : boxInB 0 0 0 0 px py = false := by unfold boxInB; rw [right0]; rfl
    rw [e1]
    symm
    rw [Bool.eq_false_iff]
    intro hc
    rw [Bool.and_eq_true, boxIn_iff, boxIn_iff] at hc
    obtain ⟨⟨_, a1, a2, a3, a4⟩, ⟨_, b1, b2, b3, b4⟩⟩ := hc
    have : meetOk ax ay aw ah bx by' bw bh = true := meetOk_iff.2 ⟨hA, hB, by omega, by omega⟩
    rw [hq] at this; cases this
  | true =>
    obtain ⟨_, _, h1, h2⟩ := meetOk_iff.1 hq
    unfold meetX meetY meetW meetH ifB
    rw [hq, if_pos rfl, if_pos rfl, if_pos rfl, if_pos rfl, Bool.eq_iff_iff, Bool.and_eq_true, boxIn_iff, boxIn_iff, boxIn_iff, rightB_iff, hA, hB]
    constructor
    · rintro ⟨_, a1, a2, a3, a4⟩
      exact ⟨⟨rfl, by omega, by omega, by omega, by omega⟩, ⟨rfl, by omega, by omega, by omega, by omega⟩⟩
    · rintro ⟨⟨_, a1, a2, a3, a4⟩, ⟨_, b1, b2, b3, b4⟩⟩
      exact ⟨by omega, by omega, by omega, by omega, by omega⟩
theorem meet_both (h1 : boxInB ax ay aw ah px py = true) (h2 : boxInB bx by' bw bh px py = true) : meetOk ax ay aw ah bx by' bw bh = true := by
  obtain ⟨hA, a1, a2, a3, a4⟩ := boxIn_iff.1 h1
  obtain ⟨hB, b1, b2, b3, b4⟩ := boxIn_iff.1 h2
  exact meetOk_iff.2 ⟨hA, hB, by omega, by omega⟩
theorem join_in (hA : rightB ax ay aw ah = true) (hB : rightB bx by' bw bh = true) (h : boxInB ax ay aw ah px py = true ∨ boxInB bx by' bw bh px py = true) : boxInB (joinX ax ay aw ah bx by' bw bh) (joinY ax ay aw ah bx by' bw bh) (joinW ax ay aw ah bx by' bw bh) (joinH ax ay aw ah bx by' bw bh) px py = true := by
  have rA := rightB_iff.1 hA
  have rB := rightB_iff.1 hB
  unfold joinX joinY joinW joinH
  rw [hA, hB]
  simp only [joinV]
  rw [boxIn_iff, rightB_iff]
  rcases h with h | h
  · obtain ⟨_, a1, a2, a3, a4⟩ := boxIn_iff.1 h
    refine ⟨?_, ?_, ?_, ?_, ?_⟩ <;> omega
  · obtain ⟨_, a1, a2, a3, a4⟩ := boxIn_iff.1 h
    refine ⟨?_, ?_, ?_, ?_, ?_⟩ <;> omega
end
/-- Grow by k is undone by Grow by -k. -/
theorem grow_back {x y w h k : Int} (hr : rightB x y w h = true) (hk : -4194304 ≤ k ∧ k ≤ 4194304) (he : growE x y w h k = 0) :
    growE (growX x y w h k) (growY x y w h k) (growW x y w h k) (growH x y w h k) (-k) = 0 ∧ growX (growX x y w h k) (growY x y w h k) (growW x y w h k) (growH x y w h k) (-k) = x ∧ growY (growX x y w h k) (growY x y w h k) (growW x y w h k) (growH x y w h k) (-k) = y ∧
      growW (growX x y w h k) (growY x y w h k) (growW x y w h k) (growH x y w h k) (-k) = w ∧ growH (growX x y w h k) (growY x y w h k) (growW x y w h k) (growH x y w h k) (-k) = h := by
  have hR := rightB_iff.1 hr
  have c1 : clampK k = k := by unfold clampK; omega
  have c2 : clampK (-k) = -k := by unfold clampK; omega
  have hok : growOk x y w h k = true := by unfold growOk; rw [he]; rfl
  have e1 : growX x y w h k = x - k := by unfold growX ifB; rw [hok, if_pos rfl, c1]
  have e2 : growY x y w h k = y - k := by unfold growY ifB; rw [hok, if_pos rfl, c1]
  have e3 : growW x y w h k = w + 2 * k := by unfold growW ifB; rw [hok, if_pos rfl, c1]
  have e4 : growH x y w h k = h + 2 * k := by unfold growH ifB; rw [hok, if_pos rfl, c1]
  rw [e1, e2, e3, e4]
  have hg : ¬ (w + 2 * k < 1 ∨ h + 2 * k < 1) ∧ rightB (x - k) (y - k) (w + 2 * k) (h + 2 * k) = true := by
    unfold growE at he
    rw [if_pos hr, c1] at he
    split at he
    · omega
    · rename_i hn
      refine ⟨hn, ?_⟩
      split at he
      · assumption
      · omega
  have hE : growE (x - k) (y - k) (w + 2 * k) (h + 2 * k) (-k) = 0 := by
    unfold growE
    rw [if_pos hg.2, c2, if_neg (by omega), if_pos]
    rw [rightB_iff]; omega
  have hok2 : growOk (x - k) (y - k) (w + 2 * k) (h + 2 * k) (-k) = true := by unfold growOk; rw [hE]; rfl
  refine ⟨hE, ?_, ?_, ?_, ?_⟩
  · unfold growX ifB; rw [hok2, if_pos rfl, c2]; omega
  · unfold growY ifB; rw [hok2, if_pos rfl, c2]; omega
  · unfold growW ifB; rw [hok2, if_pos rfl, c2]; omega
  · unfold growH ifB; rw [hok2, if_pos rfl, c2]; omega
theorem lo_le : ∀ (l : List (Int × Int)) (d m : Int), (∀ p, p ∈ l → m ≤ p.1) → m ≤ d → m ≤ loX l d
  | [], d, m, _, h => h
  | p :: l, d, m, hp, h => lo_le l (min d p.1) m (fun q hq => hp q (by simp [hq])) (by have := hp p (by simp); omega)
theorem loY_le : ∀ (l : List (Int × Int)) (d m : Int), (∀ p, p ∈ l → m ≤ p.2) → m ≤ d → m ≤ loY l d
  | [], d, m, _, h => h
  | p :: l, d, m, hp, h => loY_le l (min d p.2) m (fun q hq => hp q (by simp [hq])) (by have := hp p (by simp); omega)
theorem hi_le : ∀ (l : List (Int × Int)) (d m : Int), (∀ p, p ∈ l → p.1 ≤ m) → d ≤ m → hiX l d ≤ m
  | [], d, m, _, h => h
  | p :: l, d, m, hp, h => hi_le l (max d p.1) m (fun q hq => hp q (by simp [hq])) (by have := hp p (by simp); omega)
theorem hiY_le : ∀ (l : List (Int × Int)) (d m : Int), (∀ p, p ∈ l → p.2 ≤ m) → d ≤ m → hiY l d ≤ m
  | [], d, m, _, h => h
  | p :: l, d, m, hp, h => hiY_le l (max d p.2) m (fun q hq => hp q (by simp [hq])) (by have := hp p (by simp); omega)
theorem lo_low : ∀ (l : List (Int × Int)) (d : Int), loX l d ≤ d ∧ (∀ p, p ∈ l → loX l d ≤ p.1)
  | [], d => ⟨Int.le_refl _, fun p h => by simp at h⟩
  | q :: l, d => by
    have ih := lo_low l (min d q.1)
    refine ⟨by have := ih.1; show loX l (min d q.1) ≤ d; omega, fun p hp => ?_⟩
    rcases List.mem_cons.1 hp with rfl | h
    · have := ih.1; show loX l (min d p.1) ≤ p.1; omega
    · exact ih.2 p h
theorem loY_low : ∀ (l : List (Int × Int)) (d : Int), loY l d ≤ d ∧ (∀ p, p ∈ l → loY l d ≤ p.2)
  | [], d => ⟨Int.le_refl _, fun p h => by simp at h⟩
  | q :: l, d => by
    have ih := loY_low l (min d q.2)
    refine ⟨by have := ih.1; show loY l (min d q.2) ≤ d; omega, fun p hp => ?_⟩
    rcases List.mem_cons.1 hp with rfl | h
    · have := ih.1; show loY l (min d p.2) ≤ p.2; omega
    · exact ih.2 p h
theorem hi_high : ∀ (l : List (Int × Int)) (d : Int), d ≤ hiX l d ∧ (∀ p, p ∈ l → p.1 ≤ hiX l d)
  | [], d => ⟨Int.le_refl _, fun p h => by simp at h⟩
  | q :: l, d => by
    have ih := hi_high l (max d q.1)
    refine ⟨by have := ih.1; show d ≤ hiX l (max d q.1); omega, fun p hp => ?_⟩
    rcases List.mem_cons.1 hp with rfl | h
    · have := ih.1; show p.1 ≤ hiX l (max d p.1); omega
    · exact ih.2 p h
theorem hiY_high : ∀ (l : List (Int × Int)) (d : Int), d ≤ hiY l d ∧ (∀ p, p ∈ l → p.2 ≤ hiY l d)
  | [], d => ⟨Int.le_refl _, fun p h => by simp at h⟩
  | q :: l, d => by
    have ih := hiY_high l (max d q.2)
    refine ⟨by have := ih.1; show d ≤ hiY l (max d q.2); omega, fun p hp => ?_⟩
    rcases List.mem_cons.1 hp with rfl | h
    · have := ih.1; show p.2 ≤ hiY l (max d p.2); omega
    · exact ih.2 p h
/-- Around of a box's positions is the box. -/
theorem around_pts {x y w h : Int} (hr : rightB x y w h = true) (hw : w * h ≤ 5000) (h1 : 1 ≤ w * h) : arOk (ptsL x y w h) = true ∧ arX (ptsL x y w h) = x ∧ arY (ptsL x y w h) = y ∧ arW (ptsL x y w h) = w ∧ arH (ptsL x y w h) = h ∧ ((ptsL x y w h).length : Int) = w * h := by
  have hR := rightB_iff.1 hr
  have hok : ptsOk x y w h = true := by unfold ptsOk; rw [hr, decide_eq_true hw]; rfl
  have hl : ptsL x y w h = ptsAt x y w (w * h).toNat := by unfold ptsL; rw [if_pos hok]
  have hlen : (ptsL x y w h).length = (w * h).toNat := by rw [hl, ptsAt_len]
  have hmem : ∀ p, p ∈ ptsL x y w h → x ≤ p.1 ∧ p.1 ≤ x + w - 1 ∧ y ≤ p.2 ∧ p.2 ≤ y + h - 1 := by
    intro p hp
    rw [hl] at hp
    obtain ⟨i, hi, rfl⟩ := List.mem_map.1 hp
    have hi' : i < (w * h).toNat := by simpa using hi
    unfold ptAt
    have r1 := Int.emod_nonneg (i : Int) (show w ≠ 0 by omega)
    have r2 := Int.emod_lt_of_pos (i : Int) (show 0 < w by omega)
    have q1 := Int.ediv_nonneg (show (0 : Int) ≤ i by omega) (show (0 : Int) ≤ w by omega)
    have q2 : (i : Int) / w < h := Int.ediv_lt_of_lt_mul (by omega) (by rw [Int.mul_comm]; omega)
    refine ⟨?_, ?_, ?_, ?_⟩ <;> (simp only; omega)
  have hfirst : (x, y) ∈ ptsL x y w h := by
    rw [hl]
    refine List.mem_map.2 ⟨0, by simp; omega, ?_⟩
    unfold ptAt; simp
  have hlast : (x + w - 1, y + h - 1) ∈ ptsL x y w h := by
    rw [hl]
    obtain ⟨wn, rfl⟩ : ∃ wn : Nat, w = (wn : Int) := ⟨w.toNat, by omega⟩
    obtain ⟨hn, rfl⟩ : ∃ hn : Nat, h = (hn : Int) := ⟨h.toNat, by omega⟩
    have hkk : (hn - 1) * wn + (wn - 1) < hn * wn := by
      obtain ⟨m, rfl⟩ : ∃ m, hn = m + 1 := ⟨hn - 1, by omega⟩
      rw [Nat.add_mul, Nat.one_mul, Nat.add_sub_cancel]; omega
    refine List.mem_map.2 ⟨(hn - 1) * wn + (wn - 1), ?_, ?_⟩
    · have e : ((wn : Int) * (hn : Int)).toNat = hn * wn := by rw [← Int.natCast_mul, Int.toNat_natCast, Nat.mul_comm]
      rw [e]; simpa using hkk
    · rw [ptAt_row (by omega)]
      simp only [Prod.mk.injEq]; omega
  have hne : ptsL x y w h ≠ [] := fun e => by rw [e] at hfirst; simp at hfirst
  have har : arOk (ptsL x y w h) = true := by
    unfold arOk
    rw [Bool.and_eq_true, List.all_eq_true]
    refine ⟨by (cases hq : ptsL x y w h with | nil => exact absurd hq hne | cons _ _ => rfl), fun p hp => ?_⟩
    have := hmem p hp
    unfold okP
    rw [validB_iff]; unfold Pt; omega
  have hfst : fstX (ptsL x y w h) = x ∧ fstY (ptsL x y w h) = y := by
    refine fst_of ?_
    rw [hl]
    unfold ptsAt
    rw [List.getElem?_map, List.getElem?_range (by omega)]
    unfold ptAt; simp
  have eX : loX (ptsL x y w h) x = x := by
    have a := (lo_low (ptsL x y w h) x).1
    have b := lo_le (ptsL x y w h) x x (fun p hp => (hmem p hp).1) (Int.le_refl _)
    omega
  have eY : loY (ptsL x y w h) y = y := by
    have a := (loY_low (ptsL x y w h) y).1
    have b := loY_le (ptsL x y w h) y y (fun p hp => (hmem p hp).2.2.1) (Int.le_refl _)
    omega
  have eX2 : hiX (ptsL x y w h) x = x + w - 1 := by
    have a := (hi_high (ptsL x y w h) x).2 _ hlast
    have b := hi_le (ptsL x y w h) x (x + w - 1) (fun p hp => (hmem p hp).2.1) (by omega)
    simp only at a; omega
  have eY2 : hiY (ptsL x y w h) y = y + h - 1 := by
    have a := (hiY_high (ptsL x y w h) y).2 _ hlast
    have b := hiY_le (ptsL x y w h) y (y + h - 1) (fun p hp => (hmem p hp).2.2.2) (by omega)
    simp only at a; omega
  refine ⟨har, ?_, ?_, ?_, ?_, by rw [hlen]; omega⟩
  · unfold arX ifB; rw [har, if_pos rfl, hfst.1, eX]
  · unfold arY ifB; rw [har, if_pos rfl, hfst.2, eY]
  · unfold arW ifB; rw [har, if_pos rfl, hfst.1, eX, eX2]; omega
  · unfold arH ifB; rw [har, if_pos rfl, hfst.2, eY, eY2]; omega
end Go.Proofs.Ytnhnkmppmicjoaa
