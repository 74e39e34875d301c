/- Plain facts on the group that a list gives: its group is itself, it is closed, it has 1, 2, 4 or 8 members. -/
import Derived.Test.YtobbkclfbbblaaaDoorInvP
import Derived.Test.YtobbkclfbbblaaaDoorIntsP
import Derived.Test.YtobbkclfbbblaaaDoorOrbP
namespace Go.Proofs.YtobbkclfbbblaaaDoor
open Go Go.RowKit
set_option linter.unusedSimpArgs false
set_option linter.unusedVariables false
theorem mem_grp {l : List Int} {k : Nat} (hk : k < 8) : ((k : Nat) : Int) ∈ grp l ↔ grpB l k = true := by
  unfold grp
  rw [List.mem_map]
  constructor
  · rintro ⟨j, hj, e⟩
    have : j = k := by omega
    subst this
    exact (List.mem_filter.1 hj).2
  · intro h
    exact ⟨k, List.mem_filter.2 ⟨List.mem_range.2 hk, h⟩, rfl⟩
theorem mem_grp_nat {l : List Int} {m : Int} (h : m ∈ grp l) : ∃ k : Nat, k < 8 ∧ m = (k : Int) ∧ grpB l k = true := by
  unfold grp at h
  obtain ⟨k, hk, rfl⟩ := List.mem_map.1 h
  obtain ⟨h1, h2⟩ := List.mem_filter.1 hk
  exact ⟨k, List.mem_range.1 h1, rfl, h2⟩
theorem grp_congr {l l' : List Int} (h : ∀ k, k < 8 → grpB l k = grpB l' k) : grp l = grp l' := by
  unfold grp
  rw [List.filter_congr fun x hx => h x (by simpa using hx)]
theorem grp_grp (l : List Int) : grp (grp l) = grp l := by
  refine grp_congr (grp_of ⟨(over_grp l).zero, fun m hm => ?_, (over_grp l).closed⟩ fun k hk hs => ?_)
  · obtain ⟨k, hk, rfl, hg⟩ := mem_grp_nat hm
    rw [r8_nat hk]; exact hg
  · have := must_base ((mem_grp hk).2 hs)
    rwa [r8_nat hk] at this
theorem iv_cube : ∀ a : Nat, a < 8 → iv a = cm (cm a a) a := by decide +kernel
theorem has_inv {l : List Int} {m : Int} (h : m ∈ grp l) : hasI (grp l) (inv m) = true := by
  obtain ⟨k, hk, rfl, hg⟩ := mem_grp_nat h
  rw [hasI_iff, inv_iv, r8_nat hk, mem_grp (iv_lt hk), iv_cube k hk]
  have ho := over_grp l
  exact ho.closed _ _ (cm_lt hk hk) hk (ho.closed _ _ hk hk hg hg) hg
theorem has_comp {l : List Int} {m m' : Int} (h : m ∈ grp l) (h' : m' ∈ grp l) : hasI (grp l) (comp m m') = true := by
  obtain ⟨k, hk, rfl, hg⟩ := mem_grp_nat h
  obtain ⟨k', hk', rfl, hg'⟩ := mem_grp_nat h'
  rw [hasI_iff, comp_nat hk hk', mem_grp (cm_lt hk hk')]
  exact (over_grp l).closed _ _ hk hk' hg hg'
def cmT (a b : Nat) : Nat := ([0, 1, 2, 3, 4, 5, 6, 7, 1, 2, 3, 0, 7, 4, 5, 6, 2, 3, 0, 1, 6, 7, 4, 5, 3, 0, 1, 2, 5, 6, 7, 4, 4, 5, 6, 7, 0, 1, 2, 3, 5, 6, 7, 4, 3, 0, 1, 2, 6, 7, 4, 5, 2, 3, 0, 1, 7, 4, 5, 6, 1, 2, 3, 0] : List Nat).getD (a * 8 + b) 0
theorem cm_cmT : ∀ a : Nat, a < 8 → ∀ b : Nat, b < 8 → cm a b = cmT a b := by decide +kernel
def bitsOf (S : Nat → Bool) : List Bool := (List.range 8).map S
def closedL (L : List Bool) : Bool := (List.range 8).all fun a => (List.range 8).all fun b => !(L.getD a false && L.getD b false) || L.getD (cmT a b) false
def lenOk (n : Nat) : Bool := n == 1 || n == 2 || n == 4 || n == 8
theorem closed_len : ∀ b1 b2 b3 b4 b5 b6 b7 : Bool, closedL [true, b1, b2, b3, b4, b5, b6, b7] = true → lenOk (([true, b1, b2, b3, b4, b5, b6, b7].filter id).length) = true := by decide +kernel
theorem grp_len (l : List Int) : (grp l).length = 1 ∨ (grp l).length = 2 ∨ (grp l).length = 4 ∨ (grp l).length = 8 := by
  have ho := over_grp l
  have h1 : (grp l).length = ([true, grpB l 1, grpB l 2, grpB l 3, grpB l 4, grpB l 5, grpB l 6, grpB l 7].filter id).length := by
    unfold grp
    rw [List.length_map, ← ho.zero, show [grpB l 0, grpB l 1, grpB l 2, grpB l 3, grpB l 4, grpB l 5, grpB l 6, grpB l 7] = (List.range 8).map (grpB l) from rfl, List.filter_map, List.length_map]
    rfl
  have h2 := closed_len (grpB l 1) (grpB l 2) (grpB l 3) (grpB l 4) (grpB l 5) (grpB l 6) (grpB l 7) (by
    have e : [true, grpB l 1, grpB l 2, grpB l 3, grpB l 4, grpB l 5, grpB l 6, grpB l 7] = (List.range 8).map (grpB l) := by rw [← ho.zero]; rfl
    rw [e]
    have hget : ∀ a, a < 8 → ((List.range 8).map (grpB l)).getD a false = grpB l a := by
      intro a ha
      rw [List.getD_eq_getElem?_getD, List.getElem?_map, List.getElem?_range ha]; rfl
    unfold closedL
    rw [List.all_eq_true]
    intro a ha
    rw [List.all_eq_true]
    intro b hb
    have ha8 : a < 8 := by simpa using ha
    have hb8 : b < 8 := by simpa using hb
    rw [hget a ha8, hget b hb8, ← cm_cmT a ha8 b hb8, hget _ (cm_lt ha8 hb8)]
    cases h3 : grpB l a <;> cases h4 : grpB l b <;> simp
    exact ho.closed a b ha8 hb8 h3 h4)
  rw [← h1] at h2
  unfold lenOk at h2
  simp at h2
  omega
end Go.Proofs.YtobbkclfbbblaaaDoor
