/- The reference's form of a pattern, and its reading. By mkrgb.py. -/
import Derived.Test.YtmenokhnanghgaaGreatRFE
import Derived.Test.YtmenokhnanghgaaGreatRFX
import Derived.Test.YtmenokhnanghgaaGreatSnp5
import Derived.Test.YtmenokhnanghgaaGreatCEL
namespace Go.Proofs.YtmenokhnanghgaaGreat
open Go Go.RowKit
set_option linter.unusedSimpArgs false
set_option linter.unusedVariables false
set_option maxRecDepth 100000
set_option linter.unusedSimpArgs false
set_option linter.unusedVariables false
theorem offQ_old {α : Type} {enc : α → List Value} {k : Nat} {w w1 : World} {bw : Nat} {WA : Option Addr} {wn wc : Nat} {X T : List Bool} {er : Bool} {PA : Option Addr} {n : Nat} {l : List α} (hR : Rd enc k w PA n l) (hX : WqX w1 bw WA wn wc X T er) (hw : w.heap.size ≤ bw) : 0 < n → ∀ b o, PA = some ⟨b, o, none⟩ → b ≠ bw ∧ (Value.slice WA wn wc).ownBlock ≠ some b ∧ b < w1.heap.size := by
  intro hn b o e
  obtain ⟨b', o', e', hb, _⟩ := hR.2 hn
  rw [e] at e'
  injection e' with e'
  injection e' with e' _
  subst e'
  have := hX.s.box.1
  exact ⟨by omega, fun k => by have := hX.s.above _ k; omega, by omega⟩
theorem WqX.go {w0 w w' : World} {bw : Nat} {A A' : Option Addr} {n c n' c' : Nat} {X T : List Bool} {b : Bool} (hX : WqX w bw A n c X T b) (hB : Below w0.heap.size w0 w) (hK : WrK w bw A n c w' A' n' c') (hwb : w0.heap.size ≤ bw) : Below w0.heap.size w0 w' := hB.trans (hK.belowQ hX.s hwb)
end Go.Proofs.YtmenokhnanghgaaGreat
