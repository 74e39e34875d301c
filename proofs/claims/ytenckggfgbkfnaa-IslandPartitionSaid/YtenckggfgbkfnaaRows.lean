/-
  No cell of these rows narrows 'for every input' (looked for: loops, veiled, ifaces, maps, wideKeys, modest, calm, conditions, laid).
  DERIVED. THE GIVEN ROWS OF THIS SEAT. 5 by the template 'for every input the law returns true; each argument reads behind the call as it read before'; 0 by the template 'total and deterministic' (their statements: YtenckggfgbkfnaaTotals.lean).
  GIVEN WITH THE SEED: the statements are not yours to turn. If you find one false, say at which input.
  Laid BY PROGRAM, IN A SANDBOX (cutbox-rows.mjs): the forced cells as the released guide's own fill.sh prints them over the translation 2fec3dadabebf9e7… (all of the seat's roots in one cut). By AI agents, Wed Nov 11 2026. No macro, syntax, notation, axiom, sorry.
-/
import Derived.Test.YtenckggfgbkfnaaChecked
import GoSem.Claim
import GoSem.ClaimJoined
import GoSem.ClaimMapViews
import Derived.JoinedTies
import Derived.KernelRfl
namespace Go.Proofs.Ytenckggfgbkfnaa
/- THE CELL 'sum', in the pinned program and in every row, IS THE sha256 OF THE DUMP (.gsa) THAT YtenckggfgbkfnaaProg.lean LOADS. Nothing in Lean hashes anything: it is a label: what it is worth is what the hold of that sum in a sandbox is worth. -/
noncomputable def Try.pinned : Pinned := { name := "ytenckggfgbkfnaa", sum := "2fec3dadabebf9e7d059ad73425d377dd40a8d52f28825a748ce37b9c552228f", checked := Try.checked }
namespace Rows
def none {H : Type} : Left H := { results := [], args := [] }

/-- 'cellularlaw36.IslandParts': WHATEVER THE INPUT: true; the input reads as it did. -/
def islandPartsSpec : ChangeSpec := { name := "islandParts", fn := fun _ => fun
  | [d1, d2] => { results := [.lit (.bool true)], args := [d1, d2] }
  | _ => none }
def islandPartsRow : OpenClaim := { program := "ytenckggfgbkfnaa", sum := "2fec3dadabebf9e7d059ad73425d377dd40a8d52f28825a748ce37b9c552228f", func := "cellular/cellularlaw36.IslandParts", spec := "islandParts", unfollowed := true, recurses := true, plainKeys := false, apart := false }
def IslandPartsSaid : Prop := islandPartsRow.holds Try.pinned (OpenSpec.ofChange islandPartsSpec)

/-- ITS FALSE NEIGHBOUR: 'it returns false'. Refute it at one input. -/
def islandPartsWrong : ChangeSpec := { name := "islandParts", fn := fun _ => fun
  | [d1, d2] => { results := [.lit (.bool false)], args := [d1, d2] }
  | _ => none }
def IslandPartsWrongFalsely : Prop := islandPartsRow.holds Try.pinned (OpenSpec.ofChange islandPartsWrong)

/-- 'cellularlaw36.IslandNear': WHATEVER THE INPUT: true; the input reads as it did. -/
def islandNearSpec : ChangeSpec := { name := "islandNear", fn := fun _ => fun
  | [d1, d2, d3] => { results := [.lit (.bool true)], args := [d1, d2, d3] }
  | _ => none }
def islandNearRow : OpenClaim := { program := "ytenckggfgbkfnaa", sum := "2fec3dadabebf9e7d059ad73425d377dd40a8d52f28825a748ce37b9c552228f", func := "cellular/cellularlaw36.IslandNear", spec := "islandNear", unfollowed := true, recurses := true, plainKeys := false, apart := false }
def IslandNearSaid : Prop := islandNearRow.holds Try.pinned (OpenSpec.ofChange islandNearSpec)

/-- ITS FALSE NEIGHBOUR: 'it returns false'. Refute it at one input. -/
def islandNearWrong : ChangeSpec := { name := "islandNear", fn := fun _ => fun
  | [d1, d2, d3] => { results := [.lit (.bool false)], args := [d1, d2, d3] }
  | _ => none }
def IslandNearWrongFalsely : Prop := islandNearRow.holds Try.pinned (OpenSpec.ofChange islandNearWrong)

/-- 'cellularlaw36.IslandMerge': WHATEVER THE INPUT: true; the input reads as it did. -/
def islandMergeSpec : ChangeSpec := { name := "islandMerge", fn := fun _ => fun
  | [d1, d2] => { results := [.lit (.bool true)], args := [d1, d2] }
  | _ => none }
def islandMergeRow : OpenClaim := { program := "ytenckggfgbkfnaa", sum := "2fec3dadabebf9e7d059ad73425d377dd40a8d52f28825a748ce37b9c552228f", func := "cellular/cellularlaw36.IslandMerge", spec := "islandMerge", unfollowed := true, recurses := true, plainKeys := false, apart := false }
def IslandMergeSaid : Prop := islandMergeRow.holds Try.pinned (OpenSpec.ofChange islandMergeSpec)

/-- ITS FALSE NEIGHBOUR: 'it returns false'. Refute it at one input. -/
def islandMergeWrong : ChangeSpec := { name := "islandMerge", fn := fun _ => fun
  | [d1, d2] => { results := [.lit (.bool false)], args := [d1, d2] }
  | _ => none }
def IslandMergeWrongFalsely : Prop := islandMergeRow.holds Try.pinned (OpenSpec.ofChange islandMergeWrong)

/-- 'cellularlaw36.IslandPartition': WHATEVER THE INPUT: true; the input reads as it did. -/
def islandPartitionSpec : ChangeSpec := { name := "islandPartition", fn := fun _ => fun
  | [d1, d2] => { results := [.lit (.bool true)], args := [d1, d2] }
  | _ => none }
def islandPartitionRow : OpenClaim := { program := "ytenckggfgbkfnaa", sum := "2fec3dadabebf9e7d059ad73425d377dd40a8d52f28825a748ce37b9c552228f", func := "cellular/cellularlaw36.IslandPartition", spec := "islandPartition", unfollowed := true, recurses := true, plainKeys := false, apart := false }
def IslandPartitionSaid : Prop := islandPartitionRow.holds Try.pinned (OpenSpec.ofChange islandPartitionSpec)

/-- ITS FALSE NEIGHBOUR: 'it returns false'. Refute it at one input. -/
def islandPartitionWrong : ChangeSpec := { name := "islandPartition", fn := fun _ => fun
  | [d1, d2] => { results := [.lit (.bool false)], args := [d1, d2] }
  | _ => none }
def IslandPartitionWrongFalsely : Prop := islandPartitionRow.holds Try.pinned (OpenSpec.ofChange islandPartitionWrong)

/-- 'cellularlaw36.IslandJoins': WHATEVER THE INPUT: true; the input reads as it did. -/
def islandJoinsSpec : ChangeSpec := { name := "islandJoins", fn := fun _ => fun
  | [d1, d2] => { results := [.lit (.bool true)], args := [d1, d2] }
  | _ => none }
def islandJoinsRow : OpenClaim := { program := "ytenckggfgbkfnaa", sum := "2fec3dadabebf9e7d059ad73425d377dd40a8d52f28825a748ce37b9c552228f", func := "cellular/cellularlaw36.IslandJoins", spec := "islandJoins", unfollowed := true, recurses := true, plainKeys := false, apart := false }
def IslandJoinsSaid : Prop := islandJoinsRow.holds Try.pinned (OpenSpec.ofChange islandJoinsSpec)

/-- ITS FALSE NEIGHBOUR: 'it returns false'. Refute it at one input. -/
def islandJoinsWrong : ChangeSpec := { name := "islandJoins", fn := fun _ => fun
  | [d1, d2] => { results := [.lit (.bool false)], args := [d1, d2] }
  | _ => none }
def IslandJoinsWrongFalsely : Prop := islandJoinsRow.holds Try.pinned (OpenSpec.ofChange islandJoinsWrong)

/- THE SECOND FORM. 'bulk': how many values and letters a reading holds, each counted each time it is reached (what is shared counts as often as it is met; a slice's spare places count too). A statement '..UptoSaid' is the law's where the arguments, and the package variables that the reading takes, are together of bulk at most 1048576: NARROWER than '..Said'. Prove '..Said' where nothing that the law and all that it calls make is longer than what came in: it says more and counts as full. Else prove '..UptoSaid'. A law counts once. -/
mutual
def uptoBulk {H : Type} : DataW H → Nat
  | .lit (.string bytes) => bytes.length + 1
  | .lit _ => 1
  | .nil => 1
  | .ptr d => uptoBulk d + 1
  | .slice elems spare => uptoBulkAll elems + uptoBulkAll spare + 1
  | .agg parts => uptoBulkAll parts + 1
  | .iface _ d => uptoBulk d + 1
  | .map entries => uptoBulkEntries entries + 1
  | .held _ => 1
def uptoBulkAll {H : Type} : List (DataW H) → Nat
  | [] => 0
  | d :: r => uptoBulk d + uptoBulkAll r
def uptoBulkEntries {H : Type} : List (Lit × DataW H) → Nat
  | [] => 0
  | x :: r => uptoBulkEntry x + uptoBulkEntries r
def uptoBulkEntry {H : Type} : Lit × DataW H → Nat
  | (.string bytes, d) => bytes.length + uptoBulk d + 1
  | (_, d) => uptoBulk d + 1
 end
def uptoSmall : (H : Type) → List (DataW H) → Bool := fun _ ds => decide (uptoBulkAll ds ≤ 1048576)
def OpenSpec.upto (s : _root_.Go.ChangeSpec) : _root_.Go.OpenSpec := { _root_.Go.OpenSpec.ofChange s with cond := some uptoSmall }

/-- 'cellularlaw36.IslandParts', WHERE WHAT IT READS IS OF BULK AT MOST 1048576: true; the input reads as it did. -/
def islandPartsUptoRow : OpenClaim := { program := "ytenckggfgbkfnaa", sum := "2fec3dadabebf9e7d059ad73425d377dd40a8d52f28825a748ce37b9c552228f", func := "cellular/cellularlaw36.IslandParts", spec := "islandParts", unfollowed := true, recurses := true, plainKeys := false, apart := false, narrowed := true }
def IslandPartsUptoSaid : Prop := islandPartsUptoRow.holds Try.pinned (OpenSpec.upto islandPartsSpec)

/-- 'cellularlaw36.IslandNear', WHERE WHAT IT READS IS OF BULK AT MOST 1048576: true; the input reads as it did. -/
def islandNearUptoRow : OpenClaim := { program := "ytenckggfgbkfnaa", sum := "2fec3dadabebf9e7d059ad73425d377dd40a8d52f28825a748ce37b9c552228f", func := "cellular/cellularlaw36.IslandNear", spec := "islandNear", unfollowed := true, recurses := true, plainKeys := false, apart := false, narrowed := true }
def IslandNearUptoSaid : Prop := islandNearUptoRow.holds Try.pinned (OpenSpec.upto islandNearSpec)

/-- 'cellularlaw36.IslandMerge', WHERE WHAT IT READS IS OF BULK AT MOST 1048576: true; the input reads as it did. -/
def islandMergeUptoRow : OpenClaim := { program := "ytenckggfgbkfnaa", sum := "2fec3dadabebf9e7d059ad73425d377dd40a8d52f28825a748ce37b9c552228f", func := "cellular/cellularlaw36.IslandMerge", spec := "islandMerge", unfollowed := true, recurses := true, plainKeys := false, apart := false, narrowed := true }
def IslandMergeUptoSaid : Prop := islandMergeUptoRow.holds Try.pinned (OpenSpec.upto islandMergeSpec)

/-- 'cellularlaw36.IslandPartition', WHERE WHAT IT READS IS OF BULK AT MOST 1048576: true; the input reads as it did. -/
def islandPartitionUptoRow : OpenClaim := { program := "ytenckggfgbkfnaa", sum := "2fec3dadabebf9e7d059ad73425d377dd40a8d52f28825a748ce37b9c552228f", func := "cellular/cellularlaw36.IslandPartition", spec := "islandPartition", unfollowed := true, recurses := true, plainKeys := false, apart := false, narrowed := true }
def IslandPartitionUptoSaid : Prop := islandPartitionUptoRow.holds Try.pinned (OpenSpec.upto islandPartitionSpec)

/-- 'cellularlaw36.IslandJoins', WHERE WHAT IT READS IS OF BULK AT MOST 1048576: true; the input reads as it did. -/
def islandJoinsUptoRow : OpenClaim := { program := "ytenckggfgbkfnaa", sum := "2fec3dadabebf9e7d059ad73425d377dd40a8d52f28825a748ce37b9c552228f", func := "cellular/cellularlaw36.IslandJoins", spec := "islandJoins", unfollowed := true, recurses := true, plainKeys := false, apart := false, narrowed := true }
def IslandJoinsUptoSaid : Prop := islandJoinsUptoRow.holds Try.pinned (OpenSpec.upto islandJoinsSpec)

end Rows
end Go.Proofs.Ytenckggfgbkfnaa
