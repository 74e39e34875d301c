/- Laws of chapter 55: contracts in the laws' shape. By mklaw55.py. -/
import Derived.Test.YtmenokhnanghgaaGreatAwk55
import Derived.Test.YtmenokhnanghgaaGreatFEW
import Derived.Test.YtmenokhnanghgaaGreatTMT
namespace Go.Proofs.YtmenokhnanghgaaGreat
open Go Go.RowKit
set_option linter.unusedSimpArgs false
set_option linter.unusedVariables false
set_option maxRecDepth 100000
set_option linter.unusedSimpArgs false
set_option linter.unusedVariables false
theorem few_okT {H : List (Int × Int)} {N : List Nd} (h : fewT H N = true) : H.length ≤ 40 ∧ N.length ≤ 400 ∧ ∀ x ∈ N, x.2.length ≤ 1000000 := by
  unfold fewT at h
  rw [Bool.and_eq_true, Bool.and_eq_true, decide_eq_true_eq, decide_eq_true_eq] at h
  refine ⟨h.1.1, h.1.2, fun x hx => ?_⟩
  have := List.all_eq_true.1 h.2 x hx
  rw [decide_eq_true_eq] at this; omega
section
variable {w : World} {A B : Option Addr} {n m c d : Nat} {l : List Cel} {st key : Int} {H : List (Int × Int)} {N : List Nd} {Q : List Qd} {fs : List TFr} {data : List Int}
end
end Go.Proofs.YtmenokhnanghgaaGreat
