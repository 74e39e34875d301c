/- The reference's walk of a tree's classes: its state, plain. -/
import Derived.Test.YtellglbmbocgkaaGreatDoorTotP
namespace Go.Proofs.YtellglbmbocgkaaGreatDoor
open Go
set_option linter.unusedSimpArgs false
set_option linter.unusedVariables false
def ngN (dn : List Int) : Nat := dn.countP (fun x => decide (x < 0))
def WkK (i : Nat) (s r : List Int × List Nd) : Prop := r.1.length = s.1.length ∧ r.2.length + ngN r.1 = s.2.length + ngN s.1 ∧ ∀ j, i < j → r.1.getD j 0 = s.1.getD j 0
theorem WkK.refl (i : Nat) (s : List Int × List Nd) : WkK i s s := ⟨rfl, rfl, fun _ _ => rfl⟩
theorem WkK.trans {i i' : Nat} {s r q : List Int × List Nd} (h : WkK i s r) (k : WkK i' r q) (hi : i' ≤ i) : WkK i s q := ⟨k.1.trans h.1, k.2.1.trans h.2.1, fun j hj => (k.2.2 j (by omega)).trans (h.2.2 j hj)⟩
end Go.Proofs.YtellglbmbocgkaaGreatDoor
