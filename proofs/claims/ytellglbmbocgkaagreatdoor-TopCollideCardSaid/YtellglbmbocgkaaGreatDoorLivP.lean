/- The fixed examples of chapter 54: what they come to. Plain. -/
import Derived.Test.YtellglbmbocgkaaGreatDoorPLN
import Derived.Test.YtellglbmbocgkaaGreatDoorTotP
import Derived.Test.YtellglbmbocgkaaGreatDoorRed2
namespace Go.Proofs.YtellglbmbocgkaaGreatDoor
open Go
set_option linter.unusedSimpArgs false
set_option linter.unusedVariables false
def mooH : List (Int × Int) := [(-1, -1), (0, -1), (1, -1), (-1, 0), (0, 0), (1, 0), (-1, 1), (0, 1), (1, 1)]
end Go.Proofs.YtellglbmbocgkaaGreatDoor
