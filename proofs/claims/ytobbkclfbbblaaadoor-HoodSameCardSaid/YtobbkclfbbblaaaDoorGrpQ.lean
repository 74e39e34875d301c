/- The group as the reference finds it: plain facts. -/
import Derived.Test.YtobbkclfbbblaaaDoorGrpP
import Derived.Test.YtobbkclfbbblaaaDoorIntsP
namespace Go.Proofs.YtobbkclfbbblaaaDoor
open Go Go.RowKit
set_option linter.unusedSimpArgs false
set_option linter.unusedVariables false
/-- What holds of the reference's list at any time. -/
structure GInv (l L : List Int) : Prop where
  zero : (0 : Int) ∈ L
  must : ∀ x, x ∈ L → ∃ k : Nat, x = (k : Int) ∧ k < 8 ∧ Must l k
  nodup : L.Nodup
theorem GInv.len {l L : List Int} (h : GInv l L) : L.length ≤ 8 := nodup_len 8 L h.nodup fun x hx => by obtain ⟨k, e, hk, _⟩ := h.must x hx; exact ⟨k, e, hk⟩
theorem GInv.start (l : List Int) : GInv l [0] := ⟨by simp, fun x hx => by simp at hx; exact ⟨0, hx, by omega, must_zero l⟩, by simp⟩
theorem GInv.add {l L : List Int} (h : GInv l L) {k : Nat} (hk : k < 8) (hm : Must l k) (hn : hasI L (k : Int) = false) : GInv l (L ++ [(k : Int)]) :=
  ⟨List.mem_append_left _ h.zero, fun x hx => by
    rcases List.mem_append.1 hx with h1 | h1
    · exact h.must x h1
    · simp at h1; exact ⟨k, h1, hk, hm⟩, by
    rw [List.nodup_append]
    exact ⟨h.nodup, by simp, fun a ha b hb => by simp at hb; subst hb; intro e; subst e; exact hasI_no hn ha⟩⟩
/-- The first i numbers of l are in L. -/
def Has1 (l L : List Int) (i : Nat) : Prop := ∀ j m, j < i → l[j]? = some m → (r8 m : Int) ∈ L
theorem Has1.step {l L : List Int} {i : Nat} {m : Int} (h : Has1 l L i) (hm : l[i]? = some m) (hin : (r8 m : Int) ∈ L) : Has1 l L (i + 1) := by
  intro j m' hj hm'
  by_cases e : j = i
  · subst e; rw [hm] at hm'; cases hm'; exact hin
  · exact h j m' (by omega) hm'
theorem Has1.more {l L : List Int} {i : Nat} (h : Has1 l L i) (x : Int) : Has1 l (L ++ [x]) i := fun j m hj hm => List.mem_append_left _ (h j m hj hm)
/-- The pairs with the first element before a, or at a and the second before b, have their composition in L. -/
def Pairs (L : List Int) (a b : Nat) : Prop := ∀ i j x y, L[i]? = some x → L[j]? = some y → (i < a ∨ i = a ∧ j < b) → comp x y ∈ L
theorem Pairs.start (L : List Int) : Pairs L 0 0 := fun i j x y _ _ h => by omega
theorem Pairs.next {L : List Int} {a b : Nat} {x y : Int} (h : Pairs L a b) (hx : L[a]? = some x) (hy : L[b]? = some y) (hc : comp x y ∈ L) : Pairs L a (b + 1) := by
  intro i j x' y' hx' hy' hij
  by_cases e : i = a ∧ j = b
  · obtain ⟨rfl, rfl⟩ := e
    rw [hx] at hx'; rw [hy] at hy'; cases hx'; cases hy'; exact hc
  · exact h i j x' y' hx' hy' (by omega)
theorem Pairs.row {L : List Int} {a b : Nat} (h : Pairs L a b) (hb : L.length ≤ b) : Pairs L (a + 1) 0 := by
  intro i j x y hx hy hij
  have hj := (List.getElem?_eq_some_iff.1 hy).1
  exact h i j x y hx hy (by omega)
def Shut (L : List Int) : Prop := ∀ x y, x ∈ L → y ∈ L → comp x y ∈ L
theorem Pairs.all {L : List Int} {a b : Nat} (h : Pairs L a b) (ha : L.length ≤ a) : Shut L := by
  intro x y hx hy
  obtain ⟨i, hi, ex⟩ := List.getElem_of_mem hx
  obtain ⟨j, hj, ey⟩ := List.getElem_of_mem hy
  exact h i j x y (by rw [List.getElem?_eq_getElem hi, ex]) (by rw [List.getElem?_eq_getElem hj, ey]) (by omega)
/-- The composition of two members, a number that must be there. -/
theorem GInv.comp_must {l L : List Int} (h : GInv l L) {x y : Int} (hx : x ∈ L) (hy : y ∈ L) : ∃ k : Nat, comp x y = (k : Int) ∧ k < 8 ∧ Must l k := by
  obtain ⟨a, rfl, ha, hma⟩ := h.must x hx
  obtain ⟨b, rfl, hb, hmb⟩ := h.must y hy
  exact ⟨cm a b, comp_nat ha hb, cm_lt ha hb, must_comp ha hb hma hmb⟩
/-- At the end the list holds the group. -/
theorem GInv.group {l L : List Int} (h : GInv l L) (h1 : Has1 l L l.length) (h2 : Shut L) : ∀ k : Nat, k < 8 → grpB l k = hasI L (k : Int) := by
  refine grp_of ⟨hasI_iff.2 h.zero, fun m hm => ?_, fun a b ha hb h3 h4 => ?_⟩ fun k _ hs => ?_
  · obtain ⟨i, hi, e⟩ := List.getElem_of_mem hm
    exact hasI_iff.2 (h1 i m hi (by rw [List.getElem?_eq_getElem hi, e]))
  · rw [hasI_iff] at *
    rw [← comp_nat ha hb]; exact h2 _ _ h3 h4
  · obtain ⟨k', e, _, hm⟩ := h.must _ (hasI_iff.1 hs)
    have : k' = k := by omega
    subst this; exact hm
def memB (L : List Int) (k : Nat) : Bool := hasI L (k : Int)
/-- The numbers below i that are in a set. -/
def upTo (S : Nat → Bool) (i : Nat) : List Int := ((List.range i).filter S).map fun k => ((k : Nat) : Int)
theorem upTo_yes {S : Nat → Bool} {i : Nat} (h : S i = true) : upTo S (i + 1) = upTo S i ++ [(i : Int)] := by
  unfold upTo; rw [List.range_succ, List.filter_append]; simp [h]
theorem upTo_no {S : Nat → Bool} {i : Nat} (h : S i = false) : upTo S (i + 1) = upTo S i := by
  unfold upTo; rw [List.range_succ, List.filter_append]; simp [h]
theorem upTo_len (S : Nat → Bool) (i : Nat) : (upTo S i).length ≤ i := by
  unfold upTo; rw [List.length_map]; exact Nat.le_trans (List.length_filter_le _ _) (by simp)
theorem upTo_grp {l : List Int} {S : Nat → Bool} (h : ∀ k, k < 8 → grpB l k = S k) : upTo S 8 = grp l := by
  unfold upTo grp
  rw [List.filter_congr fun k hk => (h k (by simpa using hk)).symm]
end Go.Proofs.YtobbkclfbbblaaaDoor
