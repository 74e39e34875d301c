/- The reference's form of a pattern, and its reading. By mkrgb.py. -/
import Derived.Test.YtmenokhnanghgaaGreatRFE
import Derived.Test.YtmenokhnanghgaaGreatSNC
import Derived.Deep.RegionHeld3
import Derived.Test.YtmenokhnanghgaaGreatRFX
import Derived.Test.YtmenokhnanghgaaGreatSnp5
import Derived.Test.YtmenokhnanghgaaGreatCEL
namespace Go.Proofs.YtmenokhnanghgaaGreat
open Go Go.RowKit
set_option linter.unusedSimpArgs false
set_option linter.unusedVariables false
set_option maxRecDepth 100000
set_option linter.unusedSimpArgs false
set_option linter.unusedVariables false
theorem WqX.go {w0 w w' : World} {bw : Nat} {A A' : Option Addr} {n c n' c' : Nat} {X T : List Bool} {b : Bool} (hX : WqX w bw A n c X T b) (hB : Below w0.heap.size w0 w) (hK : WrK w bw A n c w' A' n' c') (hwb : w0.heap.size ≤ bw) : Below w0.heap.size w0 w' := hB.trans (hK.belowQ hX.s hwb)
end Go.Proofs.YtmenokhnanghgaaGreat
