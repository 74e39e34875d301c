/- The contracts of slices.Clone at cells and of Shift, of pattern and of its reference. -/
import Derived.Test.YtnhapgbjaeaamaaCell6
import Derived.Test.YtnhapgbjaeaamaaMEM
import Derived.Deep.RegionHeld3
namespace Go.Proofs.Ytnhapgbjaeaamaa
open Go Go.RowKit
set_option linter.unusedSimpArgs false
set_option linter.unusedVariables false
set_option maxRecDepth 100000
attribute [local go_sem ↓ high] eq_cl neq_cl eq_pt neq_pt
/-- One cell of one element of a row of the call's own, stored anew. -/
theorem own_cell_set {α : Type} {enc : α → List Value} {k : Nat} {e : TypeId} {B g n c : Nat} {w : World} {l : List α} (hk : ∀ x, (enc x).length = k) (h : Own enc k e B w (some ⟨g, 0, none⟩) n c l) {i j : Nat} (hj : j < k) {x y : α} (hx : l[i]? = some x) (u : Value) (he : enc y = (enc x).set j u) :
    Own enc k e B (w.setCell ⟨g, i * k + j, none⟩ u) (some ⟨g, 0, none⟩) n c (l.set i y) := by
  have hl := (List.getElem?_eq_some_iff.1 hx).1
  refine own_stored h (i * k + j) u (by simp [h.len]) ?_
  rw [flatMap_set hk l i y hl, he]
  have hlen := flatMap_len hk l
  have hik : i * k + k ≤ l.length * k := by
    have := Nat.mul_le_mul_right k (show i + 1 ≤ l.length by omega); rwa [Nat.add_mul, Nat.one_mul] at this
  apply List.ext_getElem?
  intro t
  rw [List.getElem?_set, List.append_assoc, List.getElem?_append, List.length_take, List.getElem?_append, List.length_set, hk, hlen, Nat.min_eq_left (by omega)]
  by_cases e1 : i * k + j = t
  · subst e1
    rw [if_pos rfl, if_pos (by omega), if_neg (by omega), if_pos (by omega), List.getElem?_set, if_pos (by omega), if_pos (by rw [hk]; omega)]
  · rw [if_neg e1]
    by_cases e2 : t < i * k
    · rw [if_pos e2, List.getElem?_take, if_pos e2]
    · rw [if_neg e2]
      by_cases e3 : t - i * k < k
      · rw [if_pos e3, List.getElem?_set, if_neg (by omega)]
        have e4 : (enc x)[t - i * k]? = some ((enc x)[t - i * k]'(by rw [hk]; exact e3)) := List.getElem?_eq_getElem _
        have := flatMap_get hk l i x hx (t - i * k) _ e4
        rw [show i * k + (t - i * k) = t by omega] at this
        rw [this, e4]
      · rw [if_neg e3, List.getElem?_drop]
        congr 1; omega
theorem rd_ce_own {e : TypeId} {B g n c : Nat} {w : World} {l : List (Int × Int × Int)} (h : Own encC 3 e B w (some ⟨g, 0, none⟩) n c l) {i : Nat} {x y s : Int} (hi : i < n) (hx : l[i]? = some (x, y, s)) : w.cell? ⟨g, i * 3, none⟩ = some (.int .i64 x) ∧ w.cell? ⟨g, i * 3 + 1, none⟩ = some (.int .i64 y) ∧ w.cell? ⟨g, i * 3 + 2, none⟩ = some (.int .i64 s) ∧
    w.frozen? ⟨g, i * 3, none⟩ = false ∧ w.frozen? ⟨g, i * 3 + 1, none⟩ = false ∧ w.frozen? ⟨g, i * 3 + 2, none⟩ = false := by
  have h1 := own_cells encC_len h (j := i * 3) (by omega)
  have h2 := own_cells encC_len h (j := i * 3 + 1) (by omega)
  have h3 := own_cells encC_len h (j := i * 3 + 2) (by omega)
  have e1 := flatMap_get encC_len l i (x, y, s) hx 0 _ rfl
  have e2 := flatMap_get encC_len l i (x, y, s) hx 1 _ rfl
  have e3 := flatMap_get encC_len l i (x, y, s) hx 2 _ rfl
  rw [Nat.add_zero] at e1
  exact ⟨h1.1.trans e1, h2.1.trans e2, h3.1.trans e3, h1.2, h2.2, h3.2⟩
theorem own_cap {α : Type} {enc : α → List Value} {k : Nat} {e : TypeId} {B n c : Nat} {w : World} {A : Option Addr} {l : List α} (h : Own enc k e B w A n c l) : n ≤ c := by
  rcases h.row.2 with ⟨h0, _⟩ | ⟨g, cap, cur, hv, hg, hh, h1, r⟩
  · injection h0 with _ e1 e2; omega
  · injection hv with _ e1 e2; omega
theorem ret_pe {v : Value} {a b : Int} (h : a = b) : Ending.returned (.tuple #[v, .int .i64 a]) = .returned (.tuple #[v, .int .i64 b]) := by rw [h]
/-- Shift. -/
def mv (dx dy : Int) (c : Int × Int × Int) : Int × Int × Int := (c.1 + dx, c.2.1 + dy, c.2.2)
def farB (dx dy : Int) : Bool := decide (-2097152 ≤ dx ∧ dx ≤ 2097152 ∧ -2097152 ≤ dy ∧ dy ≤ 2097152)
def plC (c : Int × Int × Int) : Bool := validB c.1 c.2.1
def shE (l : List (Int × Int × Int)) (dx dy : Int) : Int := if rightC l = true then (if farB dx dy = true then (if (l.map (mv dx dy)).all plC = true then 0 else 5) else 5) else 2
def shL (l : List (Int × Int × Int)) (dx dy : Int) : List (Int × Int × Int) := if shE l dx dy = 0 then l.map (mv dx dy) else []
def mvAt (l : List (Int × Int × Int)) (dx dy : Int) (j : Nat) : List (Int × Int × Int) := (l.map (mv dx dy)).take j ++ l.drop j
section
variable {l : List (Int × Int × Int)} {dx dy x y s : Int} {j : Nat}
theorem mvAt_get (hx : l[j]? = some (x, y, s)) : (mvAt l dx dy j)[j]? = some (x, y, s) := by
  have hl := (List.getElem?_eq_some_iff.1 hx).1
  unfold mvAt
  rw [List.getElem?_append_right (by rw [List.length_take, List.length_map]; omega), List.length_take, List.length_map, Nat.min_eq_left (by omega), Nat.sub_self, List.getElem?_drop, Nat.add_zero, hx]
theorem mvAt_step (hx : l[j]? = some (x, y, s)) : (mvAt l dx dy j).set j (x + dx, y + dy, s) = mvAt l dx dy (j + 1) := by
  have hl := (List.getElem?_eq_some_iff.1 hx).1
  apply List.ext_getElem?
  intro t
  unfold mvAt
  rw [List.getElem?_set, List.getElem?_append, List.getElem?_append, List.length_take, List.length_take, List.length_map, Nat.min_eq_left (by omega), Nat.min_eq_left (by omega), List.getElem?_take, List.getElem?_take, List.getElem?_drop, List.getElem?_drop]
  by_cases e : j = t
  · subst e
    rw [if_pos rfl, if_pos (by rw [List.length_append, List.length_take, List.length_drop, List.length_map]; omega), if_pos (by omega), if_pos (by omega), List.getElem?_map, hx]; rfl
  · rw [if_neg e]
    by_cases e2 : t < j
    · rw [if_pos e2, if_pos e2, if_pos (by omega), if_pos (by omega)]
    · rw [if_neg e2, if_neg (by omega)]
      congr 1; omega
theorem mvAt_end (h : l.length ≤ j) : mvAt l dx dy j = l.map (mv dx dy) := by
  unfold mvAt; rw [List.drop_of_length_le h, List.append_nil, List.take_of_length_le (by rw [List.length_map]; exact h)]
/-- All moved cells ahead of j are placed. -/
def plTo (l : List (Int × Int × Int)) (dx dy : Int) (j : Nat) : Prop := ∀ i x y s, i < j → l[i]? = some (x, y, s) → validB (x + dx) (y + dy) = true
theorem plTo_step (h : plTo l dx dy j) (hx : l[j]? = some (x, y, s)) (hv : validB (x + dx) (y + dy) = true) : plTo l dx dy (j + 1) := by
  intro i a b t hi hy
  by_cases e : i = j
  · rw [e, hx] at hy; cases hy; exact hv
  · exact h i a b t (by omega) hy
theorem all_of_plTo {n : Nat} (hl : l.length = n) (h : plTo l dx dy n) : (l.map (mv dx dy)).all plC = true := by
  rw [List.all_eq_true]
  intro c hc
  obtain ⟨d, hd, rfl⟩ := List.mem_map.1 hc
  obtain ⟨i, hi, e⟩ := List.getElem_of_mem hd
  exact h i d.1 d.2.1 d.2.2 (by omega) (by rw [List.getElem?_eq_getElem hi, e])
theorem not_all (hx : l[j]? = some (x, y, s)) (hv : validB (x + dx) (y + dy) = false) : (l.map (mv dx dy)).all plC = false := by
  rw [List.all_eq_false]
  refine ⟨mv dx dy (x, y, s), List.mem_map.2 ⟨_, List.mem_of_getElem? hx, rfl⟩, ?_⟩
  show ¬ validB (x + dx) (y + dy) = true
  rw [hv]; simp
theorem shE_arg (h : rightC l = false) : shE l dx dy = 2 := by unfold shE; rw [if_neg (by rw [h]; simp)]
theorem shE_far (h : rightC l = true) (hf : farB dx dy = false) : shE l dx dy = 5 := by unfold shE; rw [if_pos h, if_neg (by rw [hf]; simp)]
theorem shE_out (h : rightC l = true) (hf : farB dx dy = true) (ha : (l.map (mv dx dy)).all plC = false) : shE l dx dy = 5 := by unfold shE; rw [if_pos h, if_pos hf, if_neg (by rw [ha]; simp)]
theorem shE_ok (h : rightC l = true) (hf : farB dx dy = true) (ha : (l.map (mv dx dy)).all plC = true) : shE l dx dy = 0 := by unfold shE; rw [if_pos h, if_pos hf, if_pos ha]
theorem shL_no {n : Int} (h : shE l dx dy = n) (hn : n ≠ 0) : shL l dx dy = [] := by unfold shL; rw [if_neg (by rw [h]; exact hn)]
theorem shL_ok (h : shE l dx dy = 0) : shL l dx dy = l.map (mv dx dy) := by unfold shL; rw [if_pos h]
end
theorem farB_no {dx dy : Int} (h : farB dx dy = false) : (decide (2097152 < max dx dy) = true) ∨ (decide (2097152 < max dx dy) = false ∧ decide (min dx dy < -2097152) = true) := by
  unfold farB at h
  simp only [decide_eq_true_eq, decide_eq_false_iff_not] at h ⊢; omega
theorem farB_no2 {dx dy : Int} (h : farB dx dy = false) : (decide (dx < -2097152) = true) ∨ (decide (dx < -2097152) = false ∧ decide (2097152 < dx) = true) ∨ (decide (dx < -2097152) = false ∧ decide (2097152 < dx) = false ∧ decide (dy < -2097152) = true) ∨ (decide (dx < -2097152) = false ∧ decide (2097152 < dx) = false ∧ decide (dy < -2097152) = false ∧ decide (2097152 < dy) = true) := by
  unfold farB at h
  simp only [decide_eq_true_eq, decide_eq_false_iff_not] at h ⊢; omega
end Go.Proofs.Ytnhapgbjaeaamaa
