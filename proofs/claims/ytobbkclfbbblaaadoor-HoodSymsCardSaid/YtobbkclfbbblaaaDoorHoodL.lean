/- Plain facts on neighbourhoods: the symmetries of one form a group; the centre is an element. -/
import Derived.Test.YtobbkclfbbblaaaDoorHood12
import Derived.Test.YtobbkclfbbblaaaDoorHood11
import Derived.Test.YtobbkclfbbblaaaDoorGrpL
namespace Go.Proofs.YtobbkclfbbblaaaDoor
open Go Go.RowKit
set_option linter.unusedSimpArgs false
set_option linter.unusedVariables false
theorem firstAt_pos {p : Nat → Bool} : ∀ {n : Nat}, 0 ≤ firstAt p n → ∃ i : Nat, i < n ∧ firstAt p n = (i : Int) ∧ p i = true ∧ ∀ j, j < i → p j = false
  | 0, h => by simp [firstAt] at h
  | n + 1, h => by
    rcases Int.lt_or_le (firstAt p n) 0 with h0 | h0
    · have hall : ∀ i, i < n → p i = false := by
        intro i hi
        cases hp : p i with
        | false => rfl
        | true =>
          exfalso
          have : ∃ m : Nat, m ≤ i ∧ p m = true ∧ ∀ j, j < m → p j = false := by
            clear h h0
            induction i using Nat.strongRecOn with
            | ind i ih =>
              by_cases hex : ∃ j, j < i ∧ p j = true
              · obtain ⟨j, hj, hpj⟩ := hex
                obtain ⟨m, hm, h1, h2⟩ := ih j hj (by omega) hpj
                exact ⟨m, by omega, h1, h2⟩
              · exact ⟨i, by omega, hp, fun j hj => by
                  cases hq : p j with
                  | false => rfl
                  | true => exact absurd ⟨j, hj, hq⟩ hex⟩
          obtain ⟨m, hm, h1, h2⟩ := this
          have h3 := firstAt_nonneg h1 h2 (n := n) (by omega)
          omega
      have hn := firstAt_none hall
      cases hp : p n with
      | false =>
        exfalso
        have : firstAt p (n + 1) = -1 := by simp [firstAt, hn, hp]
        omega
      | true => exact ⟨n, by omega, by simp [firstAt, hn, hp], hp, hall⟩
    · obtain ⟨i, hi, e, hp, hj⟩ := firstAt_pos h0
      exact ⟨i, by omega, by rw [firstAt_nonneg hp hj (by omega)], hp, hj⟩
theorem hasP_iff {l : List (Int × Int)} {x y : Int} : hasP l x y = true ↔ (x, y) ∈ l := by
  unfold hasP idxP
  rw [decide_eq_true_eq]
  constructor
  · intro h
    obtain ⟨i, hi, _, hp, _⟩ := firstAt_pos h
    unfold isAt at hp
    exact List.mem_of_getElem? (of_decide_eq_true hp)
  · intro h
    rcases Int.lt_or_le (firstAt (isAt l x y) l.length) 0 with h0 | h0
    · exfalso
      obtain ⟨i, hi, e⟩ := List.getElem_of_mem h
      have hs : isAt l x y i = true := isAt_yes (by rw [List.getElem?_eq_getElem hi, e])
      have : ∃ m : Nat, m ≤ i ∧ isAt l x y m = true ∧ ∀ j, j < m → isAt l x y j = false := by
        clear h0 e hi h
        induction i using Nat.strongRecOn with
        | ind i ih =>
          by_cases hex : ∃ j, j < i ∧ isAt l x y j = true
          · obtain ⟨j, hj, hpj⟩ := hex
            obtain ⟨m, hm, h1, h2⟩ := ih j hj hpj
            exact ⟨m, by omega, h1, h2⟩
          · exact ⟨i, by omega, hs, fun j hj => by
              cases hq : isAt l x y j with
              | false => rfl
              | true => exact absurd ⟨j, hj, hq⟩ hex⟩
      obtain ⟨m, hm, h1, h2⟩ := this
      have := firstAt_nonneg h1 h2 (n := l.length) (by omega)
      omega
    · exact h0
theorem outP_iff {l : List (Int × Int)} {k x y : Int} : outP l k x y = false ↔ app k x y ∈ l := by
  unfold outP
  rw [Bool.not_eq_false', hasP_iff]
theorem keepS_iff {l : List (Int × Int)} {k : Nat} : keepS l k = true ↔ ∀ p, p ∈ l → app (k : Int) p.1 p.2 ∈ l := by
  unfold keepS anyOut
  rw [Bool.not_eq_true', List.any_eq_false]
  constructor
  · intro h p hp
    have := h p hp
    rw [Bool.not_eq_true] at this
    exact outP_iff.1 this
  · intro h p hp
    rw [Bool.not_eq_true]
    exact outP_iff.2 (h p hp)
theorem rightL_I64 {l : List (Int × Int)} (hr : rightL l = true) {p : Int × Int} (hp : p ∈ l) : I64 p.1 ∧ I64 p.2 := by
  obtain ⟨i, hi, e⟩ := List.getElem_of_mem hp
  have := rightL_elem hr (j := i) (x := p.1) (y := p.2) (by rw [List.getElem?_eq_getElem hi, e])
  unfold I64; omega
theorem grp_symsL {l : List (Int × Int)} (hr : rightL l = true) : grp (symsL l) = symsL l := by
  have e : symsL l = upTo (keepS l) 8 := by unfold symsL; rw [if_pos hr]
  have hmem : ∀ m, m ∈ upTo (keepS l) 8 ↔ ∃ k : Nat, m = (k : Int) ∧ k < 8 ∧ keepS l k = true := by
    intro m
    unfold upTo
    rw [List.mem_map]
    constructor
    · rintro ⟨k, hk, rfl⟩
      obtain ⟨h1, h2⟩ := List.mem_filter.1 hk
      exact ⟨k, rfl, List.mem_range.1 h1, h2⟩
    · rintro ⟨k, rfl, h1, h2⟩
      exact ⟨k, List.mem_filter.2 ⟨List.mem_range.2 h1, h2⟩, rfl⟩
  rw [e]
  refine (upTo_grp (grp_of ⟨?_, ?_, ?_⟩ ?_)).symm
  · rw [keepS_iff]
    intro p hp
    obtain ⟨h1, h2⟩ := rightL_I64 hr hp
    rw [app_app8 _ _ _ h1 h2]
    exact hp
  · intro m hm
    obtain ⟨k, rfl, hk, hs⟩ := (hmem m).1 hm
    rw [r8_nat hk]; exact hs
  · intro a b ha hb hsa hsb
    rw [keepS_iff] at hsa hsb ⊢
    intro p hp
    obtain ⟨h1, h2⟩ := rightL_I64 hr hp
    have h := hsb _ (hsa p hp)
    rw [app_comp _ _ _ _ h1 h2, comp_nat ha hb] at h
    exact h
  · intro k hk hs
    have := must_base ((hmem (k : Int)).2 ⟨k, rfl, hk, hs⟩)
    rwa [r8_nat hk] at this
/-- The centre is no element, or is one. -/
theorem centL_at (l : List (Int × Int)) : centL l < 0 ∨ ∃ i : Nat, centL l = (i : Int) ∧ i < l.length ∧ l[i]? = some (0, 0) := by
  unfold centL
  split
  · rcases Int.lt_or_le (idxP l 0 0) 0 with h | h
    · exact .inl h
    · obtain ⟨i, hi, e, hp, _⟩ := firstAt_pos h
      unfold isAt at hp
      exact .inr ⟨i, e, hi, of_decide_eq_true hp⟩
  · exact .inl (by omega)
/-- The usual neighbourhoods, for the three radii. -/
def mooreL (r : Nat) : List (Int × Int) := sqL (fun _ _ => true) r
def neuL (r : Nat) : List (Int × Int) := sqL (neuB r) r
end Go.Proofs.YtobbkclfbbblaaaDoor
