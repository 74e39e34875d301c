/- Laws of chapter 55: what was read is small. By mklaw55.py. -/
import Derived.Test.YtmenokhnanghgaaGreatLwL
namespace Go.Proofs.YtmenokhnanghgaaGreat
open Go Go.RowKit
set_option linter.unusedSimpArgs false
set_option linter.unusedVariables false
theorem ttV_sm {data : List Int} (hd : ByL data) : (ttV (unB data)).2.1.length ≤ 1000000 ∧ (ttV (unB data)).2.2.length ≤ 1000000 ∧ ∀ x ∈ (ttV (unB data)).2.2, x.2.length ≤ 1000000 := by
  by_cases h : ttE (unB data) = 0
  · have hV : ttV (unB data) = (ttS (unB data), (ttH (unB data)).1, (ttN (unB data)).1) := by unfold ttV; rw [if_pos h]
    obtain ⟨k1, k2, _, k3, k4⟩ := trR_bounds (tre_form hd h).1
    rw [hV]
    exact ⟨by show (ttH (unB data)).1.length ≤ _; omega, by show (ttN (unB data)).1.length ≤ _; omega, fun x hx => by have := (k4 x hx).2.1; omega⟩
  · have hV : ttV (unB data) = (0, [], []) := by unfold ttV; rw [if_neg h]
    rw [hV]
    exact ⟨by simp, by simp, fun x hx => (List.not_mem_nil hx).elim⟩
end Go.Proofs.YtmenokhnanghgaaGreat
