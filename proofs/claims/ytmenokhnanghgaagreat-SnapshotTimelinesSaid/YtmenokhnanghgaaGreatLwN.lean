/- Laws of chapter 55: what was read is small. By mklaw55.py. -/
import Derived.Test.YtmenokhnanghgaaGreatLwL
namespace Go.Proofs.YtmenokhnanghgaaGreat
open Go Go.RowKit
set_option linter.unusedSimpArgs false
set_option linter.unusedVariables false
theorem tmV_sm {data : List Int} (hd : ByL data) : SmT (tmV (unB data)).2 := by
  by_cases h : tmE (unB data) = 0
  · exact tm_smT hd h
  · have hV : tmV (unB data) = (0, []) := by unfold tmV; rw [if_neg h]
    rw [hV]
    exact fun x hx => (List.not_mem_nil hx).elim
end Go.Proofs.YtmenokhnanghgaaGreat
