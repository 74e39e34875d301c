/- The tree of a rule by counts of two states on nine positions, and the reduction of a tree, as the references make them. Plain. -/
import Derived.Test.YtellglbmbocgkaaGreatDoorPLN
namespace Go.Proofs.YtellglbmbocgkaaGreatDoor
open Go
set_option linter.unusedSimpArgs false
set_option linter.unusedVariables false
abbrev Nd := Int × List Int
end Go.Proofs.YtellglbmbocgkaaGreatDoor
