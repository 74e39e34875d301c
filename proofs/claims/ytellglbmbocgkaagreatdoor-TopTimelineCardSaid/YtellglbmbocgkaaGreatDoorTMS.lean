/- The reference's Same. By mktim15.py. -/
import Derived.Test.YtellglbmbocgkaaGreatDoorTim8
import Derived.Test.YtellglbmbocgkaaGreatDoorTMC
import Derived.Test.YtellglbmbocgkaaGreatDoorMEM
import Derived.Laws.Tables
import Derived.StillTail
set_option linter.unusedSimpArgs false
set_option linter.unusedVariables false
section
namespace Go.Proofs.YtellglbmbocgkaaGreatDoor
open Go Go.RowKit
set_option maxRecDepth 100000
set_option linter.unusedSimpArgs false
set_option linter.unusedVariables false
theorem two_boxesS (w : World) (ka kb : Int) (A B : Option Addr) (n c m d : Nat) (t : TypeId) : ∃ we, we = (w.alloc (.cells #[.int .i64 ka, .slice A n c] t)).alloc (.cells #[.int .i64 kb, .slice B m d] t) ∧
    BxW we w.heap.size [.int .i64 ka, .slice A n c] ∧ BxW we (w.heap.size + 1) [.int .i64 kb, .slice B m d] ∧ Below w.heap.size w we ∧ we.heap.size = w.heap.size + 2 := by
  have h2 := BxW.new (w.alloc (.cells #[.int .i64 ka, .slice A n c] t)) [.int .i64 kb, .slice B m d] t
  rw [World.size_alloc] at h2
  exact ⟨_, rfl, (BxW.new w [_, _] t).of ((Below.refl _ _).alloc (Nat.le_refl _) _), h2, ((Below.refl _ _).alloc (Nat.le_refl _) _).alloc (by simp) _, by simp⟩
end Go.Proofs.YtellglbmbocgkaaGreatDoor
end
