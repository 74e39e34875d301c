/-
  No cell of these rows narrows 'for every input' (looked for: loops, veiled, ifaces, maps, wideKeys, modest, calm, conditions, laid).
  DERIVED. THE GIVEN ROWS OF THIS SEAT. 6 by the template 'for every input the law returns true; each argument reads behind the call as it read before'; 0 by the template 'total and deterministic' (their statements: YtnhapgbjaeaamaaTotals.lean).
  GIVEN WITH THE SEED: the statements are not yours to turn. If you find one false, say at which input.
  Laid BY PROGRAM, IN A SANDBOX (cutbox-rows.mjs): the forced cells as the released guide's own fill.sh prints them over the translation 485fce59277a8b7d… (all of the seat's roots in one cut). By AI agents, Wed Nov 11 2026. No macro, syntax, notation, axiom, sorry.
-/
import Derived.Test.YtnhapgbjaeaamaaChecked
import GoSem.Claim
import GoSem.ClaimJoined
import GoSem.ClaimMapViews
import Derived.JoinedTies
import Derived.KernelRfl
namespace Go.Proofs.Ytnhapgbjaeaamaa
/- THE CELL 'sum', in the pinned program and in every row, IS THE sha256 OF THE DUMP (.gsa) THAT YtnhapgbjaeaamaaProg.lean LOADS. Nothing in Lean hashes anything: it is a label: what it is worth is what the hold of that sum in a sandbox is worth. -/
noncomputable def Try.pinned : Pinned := { name := "ytnhapgbjaeaamaa", sum := "485fce59277a8b7dba668426b94ae1a34a7dda5d885dde6e70000dc895868f98", checked := Try.checked }
namespace Rows
def none {H : Type} : Left H := { results := [], args := [] }

/-- 'cellularlaw20.DirectSteps': WHATEVER THE INPUT: true; the input reads as it did. -/
def directStepsSpec : ChangeSpec := { name := "directSteps", fn := fun _ => fun
  | [d1, d2] => { results := [.lit (.bool true)], args := [d1, d2] }
  | _ => none }
def directStepsRow : OpenClaim := { program := "ytnhapgbjaeaamaa", sum := "485fce59277a8b7dba668426b94ae1a34a7dda5d885dde6e70000dc895868f98", func := "cellular/cellularlaw20.DirectSteps", spec := "directSteps", unfollowed := true, recurses := true, plainKeys := false, apart := false }
def DirectStepsSaid : Prop := directStepsRow.holds Try.pinned (OpenSpec.ofChange directStepsSpec)

/-- ITS FALSE NEIGHBOUR: 'it returns false'. Refute it at one input. -/
def directStepsWrong : ChangeSpec := { name := "directSteps", fn := fun _ => fun
  | [d1, d2] => { results := [.lit (.bool false)], args := [d1, d2] }
  | _ => none }
def DirectStepsWrongFalsely : Prop := directStepsRow.holds Try.pinned (OpenSpec.ofChange directStepsWrong)

/-- 'cellularlaw20.DirectNext': WHATEVER THE INPUT: true; the input reads as it did. -/
def directNextSpec : ChangeSpec := { name := "directNext", fn := fun _ => fun
  | [d1, d2, d3] => { results := [.lit (.bool true)], args := [d1, d2, d3] }
  | _ => none }
def directNextRow : OpenClaim := { program := "ytnhapgbjaeaamaa", sum := "485fce59277a8b7dba668426b94ae1a34a7dda5d885dde6e70000dc895868f98", func := "cellular/cellularlaw20.DirectNext", spec := "directNext", unfollowed := true, recurses := true, plainKeys := false, apart := false }
def DirectNextSaid : Prop := directNextRow.holds Try.pinned (OpenSpec.ofChange directNextSpec)

/-- ITS FALSE NEIGHBOUR: 'it returns false'. Refute it at one input. -/
def directNextWrong : ChangeSpec := { name := "directNext", fn := fun _ => fun
  | [d1, d2, d3] => { results := [.lit (.bool false)], args := [d1, d2, d3] }
  | _ => none }
def DirectNextWrongFalsely : Prop := directNextRow.holds Try.pinned (OpenSpec.ofChange directNextWrong)

/-- 'cellularlaw20.DirectRuns': WHATEVER THE INPUT: true; the input reads as it did. -/
def directRunsSpec : ChangeSpec := { name := "directRuns", fn := fun _ => fun
  | [d1, d2, d3] => { results := [.lit (.bool true)], args := [d1, d2, d3] }
  | _ => none }
def directRunsRow : OpenClaim := { program := "ytnhapgbjaeaamaa", sum := "485fce59277a8b7dba668426b94ae1a34a7dda5d885dde6e70000dc895868f98", func := "cellular/cellularlaw20.DirectRuns", spec := "directRuns", unfollowed := true, recurses := true, plainKeys := false, apart := false }
def DirectRunsSaid : Prop := directRunsRow.holds Try.pinned (OpenSpec.ofChange directRunsSpec)

/-- ITS FALSE NEIGHBOUR: 'it returns false'. Refute it at one input. -/
def directRunsWrong : ChangeSpec := { name := "directRuns", fn := fun _ => fun
  | [d1, d2, d3] => { results := [.lit (.bool false)], args := [d1, d2, d3] }
  | _ => none }
def DirectRunsWrongFalsely : Prop := directRunsRow.holds Try.pinned (OpenSpec.ofChange directRunsWrong)

/-- 'cellularlaw20.DirectParts': WHATEVER THE INPUT: true; the input reads as it did. -/
def directPartsSpec : ChangeSpec := { name := "directParts", fn := fun _ => fun
  | [d1, d2, d3] => { results := [.lit (.bool true)], args := [d1, d2, d3] }
  | _ => none }
def directPartsRow : OpenClaim := { program := "ytnhapgbjaeaamaa", sum := "485fce59277a8b7dba668426b94ae1a34a7dda5d885dde6e70000dc895868f98", func := "cellular/cellularlaw20.DirectParts", spec := "directParts", unfollowed := true, recurses := true, plainKeys := false, apart := false }
def DirectPartsSaid : Prop := directPartsRow.holds Try.pinned (OpenSpec.ofChange directPartsSpec)

/-- ITS FALSE NEIGHBOUR: 'it returns false'. Refute it at one input. -/
def directPartsWrong : ChangeSpec := { name := "directParts", fn := fun _ => fun
  | [d1, d2, d3] => { results := [.lit (.bool false)], args := [d1, d2, d3] }
  | _ => none }
def DirectPartsWrongFalsely : Prop := directPartsRow.holds Try.pinned (OpenSpec.ofChange directPartsWrong)

/-- 'cellularlaw20.DirectMoves': WHATEVER THE INPUT: true; the input reads as it did. -/
def directMovesSpec : ChangeSpec := { name := "directMoves", fn := fun _ => fun
  | [d1, d2, d3] => { results := [.lit (.bool true)], args := [d1, d2, d3] }
  | _ => none }
def directMovesRow : OpenClaim := { program := "ytnhapgbjaeaamaa", sum := "485fce59277a8b7dba668426b94ae1a34a7dda5d885dde6e70000dc895868f98", func := "cellular/cellularlaw20.DirectMoves", spec := "directMoves", unfollowed := true, recurses := true, plainKeys := false, apart := false }
def DirectMovesSaid : Prop := directMovesRow.holds Try.pinned (OpenSpec.ofChange directMovesSpec)

/-- ITS FALSE NEIGHBOUR: 'it returns false'. Refute it at one input. -/
def directMovesWrong : ChangeSpec := { name := "directMoves", fn := fun _ => fun
  | [d1, d2, d3] => { results := [.lit (.bool false)], args := [d1, d2, d3] }
  | _ => none }
def DirectMovesWrongFalsely : Prop := directMovesRow.holds Try.pinned (OpenSpec.ofChange directMovesWrong)

/-- 'cellularlaw20.DirectFar': WHATEVER THE INPUT: true; the input reads as it did. -/
def directFarSpec : ChangeSpec := { name := "directFar", fn := fun _ => fun
  | [d1, d2, d3] => { results := [.lit (.bool true)], args := [d1, d2, d3] }
  | _ => none }
def directFarRow : OpenClaim := { program := "ytnhapgbjaeaamaa", sum := "485fce59277a8b7dba668426b94ae1a34a7dda5d885dde6e70000dc895868f98", func := "cellular/cellularlaw20.DirectFar", spec := "directFar", unfollowed := true, recurses := true, plainKeys := false, apart := false }
def DirectFarSaid : Prop := directFarRow.holds Try.pinned (OpenSpec.ofChange directFarSpec)

/-- ITS FALSE NEIGHBOUR: 'it returns false'. Refute it at one input. -/
def directFarWrong : ChangeSpec := { name := "directFar", fn := fun _ => fun
  | [d1, d2, d3] => { results := [.lit (.bool false)], args := [d1, d2, d3] }
  | _ => none }
def DirectFarWrongFalsely : Prop := directFarRow.holds Try.pinned (OpenSpec.ofChange directFarWrong)

/- THE SECOND FORM. 'bulk': how many values and letters a reading holds, each counted each time it is reached (what is shared counts as often as it is met; a slice's spare places count too). A statement '..UptoSaid' is the law's where the arguments, and the package variables that the reading takes, are together of bulk at most 1048576: NARROWER than '..Said'. Prove '..Said' where nothing that the law and all that it calls make is longer than what came in: it says more and counts as full. Else prove '..UptoSaid'. A law counts once. -/
mutual
def uptoBulk {H : Type} : DataW H → Nat
  | .lit (.string bytes) => bytes.length + 1
  | .lit _ => 1
  | .nil => 1
  | .ptr d => uptoBulk d + 1
  | .slice elems spare => uptoBulkAll elems + uptoBulkAll spare + 1
  | .agg parts => uptoBulkAll parts + 1
  | .iface _ d => uptoBulk d + 1
  | .map entries => uptoBulkEntries entries + 1
  | .held _ => 1
def uptoBulkAll {H : Type} : List (DataW H) → Nat
  | [] => 0
  | d :: r => uptoBulk d + uptoBulkAll r
def uptoBulkEntries {H : Type} : List (Lit × DataW H) → Nat
  | [] => 0
  | x :: r => uptoBulkEntry x + uptoBulkEntries r
def uptoBulkEntry {H : Type} : Lit × DataW H → Nat
  | (.string bytes, d) => bytes.length + uptoBulk d + 1
  | (_, d) => uptoBulk d + 1
 end
def uptoSmall : (H : Type) → List (DataW H) → Bool := fun _ ds => decide (uptoBulkAll ds ≤ 1048576)
def OpenSpec.upto (s : _root_.Go.ChangeSpec) : _root_.Go.OpenSpec := { _root_.Go.OpenSpec.ofChange s with cond := some uptoSmall }

/-- 'cellularlaw20.DirectSteps', WHERE WHAT IT READS IS OF BULK AT MOST 1048576: true; the input reads as it did. -/
def directStepsUptoRow : OpenClaim := { program := "ytnhapgbjaeaamaa", sum := "485fce59277a8b7dba668426b94ae1a34a7dda5d885dde6e70000dc895868f98", func := "cellular/cellularlaw20.DirectSteps", spec := "directSteps", unfollowed := true, recurses := true, plainKeys := false, apart := false, narrowed := true }
def DirectStepsUptoSaid : Prop := directStepsUptoRow.holds Try.pinned (OpenSpec.upto directStepsSpec)

/-- 'cellularlaw20.DirectNext', WHERE WHAT IT READS IS OF BULK AT MOST 1048576: true; the input reads as it did. -/
def directNextUptoRow : OpenClaim := { program := "ytnhapgbjaeaamaa", sum := "485fce59277a8b7dba668426b94ae1a34a7dda5d885dde6e70000dc895868f98", func := "cellular/cellularlaw20.DirectNext", spec := "directNext", unfollowed := true, recurses := true, plainKeys := false, apart := false, narrowed := true }
def DirectNextUptoSaid : Prop := directNextUptoRow.holds Try.pinned (OpenSpec.upto directNextSpec)

/-- 'cellularlaw20.DirectRuns', WHERE WHAT IT READS IS OF BULK AT MOST 1048576: true; the input reads as it did. -/
def directRunsUptoRow : OpenClaim := { program := "ytnhapgbjaeaamaa", sum := "485fce59277a8b7dba668426b94ae1a34a7dda5d885dde6e70000dc895868f98", func := "cellular/cellularlaw20.DirectRuns", spec := "directRuns", unfollowed := true, recurses := true, plainKeys := false, apart := false, narrowed := true }
def DirectRunsUptoSaid : Prop := directRunsUptoRow.holds Try.pinned (OpenSpec.upto directRunsSpec)

/-- 'cellularlaw20.DirectParts', WHERE WHAT IT READS IS OF BULK AT MOST 1048576: true; the input reads as it did. -/
def directPartsUptoRow : OpenClaim := { program := "ytnhapgbjaeaamaa", sum := "485fce59277a8b7dba668426b94ae1a34a7dda5d885dde6e70000dc895868f98", func := "cellular/cellularlaw20.DirectParts", spec := "directParts", unfollowed := true, recurses := true, plainKeys := false, apart := false, narrowed := true }
def DirectPartsUptoSaid : Prop := directPartsUptoRow.holds Try.pinned (OpenSpec.upto directPartsSpec)

/-- 'cellularlaw20.DirectMoves', WHERE WHAT IT READS IS OF BULK AT MOST 1048576: true; the input reads as it did. -/
def directMovesUptoRow : OpenClaim := { program := "ytnhapgbjaeaamaa", sum := "485fce59277a8b7dba668426b94ae1a34a7dda5d885dde6e70000dc895868f98", func := "cellular/cellularlaw20.DirectMoves", spec := "directMoves", unfollowed := true, recurses := true, plainKeys := false, apart := false, narrowed := true }
def DirectMovesUptoSaid : Prop := directMovesUptoRow.holds Try.pinned (OpenSpec.upto directMovesSpec)

/-- 'cellularlaw20.DirectFar', WHERE WHAT IT READS IS OF BULK AT MOST 1048576: true; the input reads as it did. -/
def directFarUptoRow : OpenClaim := { program := "ytnhapgbjaeaamaa", sum := "485fce59277a8b7dba668426b94ae1a34a7dda5d885dde6e70000dc895868f98", func := "cellular/cellularlaw20.DirectFar", spec := "directFar", unfollowed := true, recurses := true, plainKeys := false, apart := false, narrowed := true }
def DirectFarUptoSaid : Prop := directFarUptoRow.holds Try.pinned (OpenSpec.upto directFarSpec)

end Rows
end Go.Proofs.Ytnhapgbjaeaamaa
