/- The contracts of Box, of pattern and of its reference. -/
import Derived.Test.YtenckggfgbkfnaaCell3
import Derived.Test.YtenckggfgbkfnaaAround
import Derived.Test.YtenckggfgbkfnaaPLN
namespace Go.Proofs.Ytenckggfgbkfnaa
open Go Go.RowKit
set_option linter.unusedSimpArgs false
set_option linter.unusedVariables false
set_option maxRecDepth 100000
attribute [local go_sem ↓ high] eq_cl neq_cl eq_pt neq_pt
/-- The positions of a pattern. -/
def posC (l : List (Int × Int × Int)) : List (Int × Int) := l.map fun c => (c.1, c.2.1)
theorem posC_get {l : List (Int × Int × Int)} {j : Nat} {x y s : Int} (h : l[j]? = some (x, y, s)) : (posC l)[j]? = some (x, y) := by unfold posC; rw [List.getElem?_map, h]; rfl
theorem posC_len (l : List (Int × Int × Int)) : (posC l).length = l.length := by unfold posC; simp
/-- What Box returns. -/
def bxPos (l : List (Int × Int × Int)) : List (Int × Int) := if rightC l = true then posC l else []
noncomputable def bxVal (l : List (Int × Int × Int)) : Value := arVal (bxPos l)
theorem bxVal_no {l : List (Int × Int × Int)} (h : l.length = 0 ∨ rightC l = false) : Ending.returned (.tuple #[.agg #[.int .i64 0, .int .i64 0, .int .i64 0, .int .i64 0], .bool false]) = .returned (bxVal l) := by
  refine arVal_no ?_
  unfold bxPos
  split
  · rcases h with h | h
    · obtain rfl : l = [] := List.length_eq_zero_iff.1 h
      rfl
    · rename_i h2; rw [h] at h2; cases h2
  · rfl
theorem arOk_right {l : List (Int × Int × Int)} (h : rightC l = true) (h0 : 0 < l.length) : arOk (posC l) = true := by
  refine arOk_all (posC_len l) h0 fun j x y hj hx => ?_
  unfold posC at hx
  rw [List.getElem?_map] at hx
  cases hq : l[j]? with
  | none => rw [hq] at hx; cases hx
  | some c =>
    rw [hq] at hx
    obtain ⟨a, b, s⟩ := c
    simp only [Option.map_some, Option.some.injEq, Prod.mk.injEq] at hx
    obtain ⟨rfl, rfl⟩ := hx
    exact validB_iff.2 (rightC_elem h hq).1
theorem bxVal_yes {l : List (Int × Int × Int)} {fx fy s x y z u : Int} (h : rightC l = true) (h0 : l[0]? = some (fx, fy, s)) (e : x = loX (posC l) fx ∧ y = loY (posC l) fy ∧ z = hiX (posC l) fx - loX (posC l) fx + 1 ∧ u = hiY (posC l) fy - loY (posC l) fy + 1) :
    Ending.returned (.tuple #[.agg #[.int .i64 x, .int .i64 y, .int .i64 z, .int .i64 u], .bool true]) = .returned (bxVal l) := by
  have hl := (List.getElem?_eq_some_iff.1 h0).1
  have hf := fst_of (posC_get h0)
  unfold bxVal bxPos
  rw [if_pos h]
  exact arVal_yes (arOk_right h hl) hf.1 hf.2 e
theorem bound_right {l : List (Int × Int × Int)} {fx fy s : Int} (h : rightC l = true) (h0 : l[0]? = some (fx, fy, s)) : Sm (loX (posC l) fx) ∧ Sm (loY (posC l) fy) ∧ Sm (hiX (posC l) fx) ∧ Sm (hiY (posC l) fy) := by
  have hl := (List.getElem?_eq_some_iff.1 h0).1
  refine okTo_bound (posC_len l) (posC_get h0) hl fun j x y hj hx => ?_
  unfold posC at hx
  rw [List.getElem?_map] at hx
  cases hq : l[j]? with
  | none => rw [hq] at hx; cases hx
  | some c =>
    rw [hq] at hx
    obtain ⟨a, b, s⟩ := c
    simp only [Option.map_some, Option.some.injEq, Prod.mk.injEq] at hx
    obtain ⟨rfl, rfl⟩ := hx
    exact validB_iff.2 (rightC_elem h hq).1
/-- In a valid pattern the first cell is the highest one, the last the lowest. -/
theorem right_lo {l : List (Int × Int × Int)} {fx fy s : Int} (h : rightC l = true) (h0 : l[0]? = some (fx, fy, s)) : loY (posC l) fy = fy := by
  have hs := rightC_sorted h
  have h1 := (loY_low (posC l) fy).1
  have h2 := loY_le (posC l) fy fy (fun p hp => by
    obtain ⟨c, hc, rfl⟩ := List.mem_map.1 hp
    cases l with
    | nil => simp at hc
    | cons d l =>
      have e : d = (fx, fy, s) := by simpa using h0
      rcases List.mem_cons.1 hc with rfl | hm
      · rw [e]; exact Int.le_refl _
      · have := (List.pairwise_cons.1 hs).1 c hm
        rw [e] at this
        unfold cBef befP at this
        simp only [decide_eq_true_eq] at this
        show fy ≤ c.2.1
        omega) (Int.le_refl _)
  omega
theorem right_hi {l : List (Int × Int × Int)} {fx fy s gx gy t : Int} (h : rightC l = true) (h0 : l[0]? = some (fx, fy, s)) (hn : l[l.length - 1]? = some (gx, gy, t)) : hiY (posC l) fy = gy := by
  have hs := rightC_sorted h
  have key : ∀ c, c ∈ l → c.2.1 ≤ gy := fun c hc => by
    obtain ⟨i, hi, e⟩ := List.getElem_of_mem hc
    have hlen := (List.getElem?_eq_some_iff.1 hn).1
    rcases Nat.lt_or_ge i (l.length - 1) with h3 | h3
    · have := (List.pairwise_iff_getElem.1 hs) i (l.length - 1) hi hlen h3
      rw [e, (List.getElem?_eq_some_iff.1 hn).2] at this
      unfold cBef befP at this
      simp only [decide_eq_true_eq] at this
      omega
    · have : i = l.length - 1 := by omega
      subst this
      rw [(List.getElem?_eq_some_iff.1 hn).2] at e
      rw [← e]; exact Int.le_refl _
  have h1 := (hiY_high (posC l) fy).2 (gx, gy) (List.mem_map.2 ⟨(gx, gy, t), List.mem_of_getElem? hn, rfl⟩)
  have h2 := hiY_le (posC l) fy gy (fun p hp => by
    obtain ⟨c, hc, rfl⟩ := List.mem_map.1 hp
    exact key c hc) (key _ (List.mem_of_getElem? h0))
  simp only at h1
  omega
theorem posC_take (l : List (Int × Int × Int)) (j : Nat) : (posC l).take j = posC (l.take j) := by unfold posC; rw [List.map_take]
theorem pat_RightV {A : Option Addr} {n c : Nat} {l : List (Int × Int × Int)} {q : Bool} (h : rightC l = q) (w : World) (hR : Rd encC 3 w A n l) (hn : n ≤ 9223372036854775807) : Calls Try.prog 19 #[.slice A n c] w fun e w' => e = .returned (.bool q) ∧ Below w.heap.size w w' := by
  rw [← h]; exact pat_Right A n c l w hR hn
theorem ref05_RightV {A : Option Addr} {n c : Nat} {l : List (Int × Int × Int)} {q : Bool} (h : rightC l = q) (w : World) (hR : Rd encC 3 w A n l) (hn : n ≤ 9223372036854775807) : Calls Try.prog 22 #[.slice A n c] w fun e w' => e = .returned (.bool q) ∧ Below w.heap.size w w' := by
  rw [← h]; exact ref05_Right A n c l w hR hn
end Go.Proofs.Ytenckggfgbkfnaa
