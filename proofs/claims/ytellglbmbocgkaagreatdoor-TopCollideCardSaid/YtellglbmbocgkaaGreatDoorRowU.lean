/- An unsigned byte as a natural number. -/
import Derived.Test.YtellglbmbocgkaaGreatDoorROW
namespace Go.Proofs.YtellglbmbocgkaaGreatDoor
open Go Go.ChangeShapes Go.WideShapes Go.ChangeAt Go.RowKit Go.Joins Go.Deep
set_option linter.unusedSimpArgs false
set_option linter.unusedVariables false
set_option maxRecDepth 100000
section
variable {H : Type} {enc : TypeId × Value → H} {W : World} {base b0 : Nat} {sp : Nat → Bool} {held : Bool} {v : Value} {d : DataW H} {p : List MemPlace}
theorem open_u8n (hv : Value.okWide Tryz.prog W .any b0 5 v) (h : DataW.Trod enc Tryz.prog W base sp held 5 v d p) : ∃ x : Nat, v = .int .u8 (x : Int) ∧ x ≤ 255 := by
  obtain ⟨x, rfl, h0, h1⟩ := open_u8 hv h
  exact ⟨x.toNat, by rw [Int.toNat_of_nonneg h0], by omega⟩
end
end Go.Proofs.YtellglbmbocgkaaGreatDoor
