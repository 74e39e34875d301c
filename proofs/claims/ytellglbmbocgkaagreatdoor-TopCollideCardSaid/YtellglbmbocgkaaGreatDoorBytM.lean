/- Rows of bytes and of bools: how they read, how they are stored into. Over any program. -/
import Derived.Test.YtellglbmbocgkaaGreatDoorPLN
import Derived.Test.YtellglbmbocgkaaGreatDoorMEM
import Derived.Laws.BitsAllLaws
namespace Go.Proofs.YtellglbmbocgkaaGreatDoor
open Go Go.RowKit
set_option linter.unusedSimpArgs false
set_option linter.unusedVariables false
set_option linter.unusedSimpArgs false
set_option linter.unusedVariables false
def encU (x : Int) : List Value := [.int .u8 x]
theorem encU_len (x : Int) : (encU x).length = 1 := rfl
theorem encU_one : ∀ y, ∀ u ∈ encU y, u.oneCell' = true := by intro y u hu; simp [encU] at hu; subst hu; rfl
section
variable {w : World} {A : Option Addr} {n c : Nat} {l : List Int} {bl : List Bool}
theorem Rd.byte (h : Rd encU 1 w A n l) {i : Nat} (hi : i < n) : ∃ x b o, Hid (l[i]? = some x) ∧ A = some ⟨b, o, none⟩ ∧ b < w.heap.size ∧ w.cell? ⟨b, o + i, none⟩ = some (.int .u8 x) := by
  obtain ⟨x, b, o, h1, h2, h3, h4⟩ := h.elem hi
  exact ⟨x, b, o, h1, h2, h3, by simpa using h4 0 _ rfl⟩
variable {e : TypeId} {B g : Nat}
end
end Go.Proofs.YtellglbmbocgkaaGreatDoor
