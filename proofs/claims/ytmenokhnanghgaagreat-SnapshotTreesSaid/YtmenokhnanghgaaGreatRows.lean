/-
  No cell of these rows narrows 'for every input' (looked for: loops, veiled, ifaces, maps, wideKeys, modest, calm, conditions, laid).
  DERIVED. THE GIVEN ROWS OF THIS SEAT. 6 by the template 'for every input the law returns true; each argument reads behind the call as it read before'; 0 by the template 'total and deterministic' (their statements: YtmenokhnanghgaaGreatTotals.lean).
  GIVEN WITH THE SEED: the statements are not yours to turn. If you find one false, say at which input.
  Laid BY PROGRAM, IN A SANDBOX (cutbox-rows.mjs): the forced cells as the released guide's own fill.sh prints them over the translation 12519654b27a60cb… (all of the seat's roots in one cut). By AI agents, Wed Nov 11 2026. No macro, syntax, notation, axiom, sorry.
-/
import Derived.Test.YtmenokhnanghgaaGreatChecked
import GoSem.Claim
import GoSem.ClaimJoined
import GoSem.ClaimMapViews
import Derived.JoinedTies
import Derived.KernelRfl
namespace Go.Proofs.YtmenokhnanghgaaGreat
/- THE CELL 'sum', in the pinned program and in every row, IS THE sha256 OF THE DUMP (.gsa) THAT YtmenokhnanghgaaGreatProg.lean LOADS. Nothing in Lean hashes anything: it is a label: what it is worth is what the hold of that sum in a sandbox is worth. -/
noncomputable def Tryz.pinned : Pinned := { name := "ytmenokhnanghgaagreat", sum := "12519654b27a60cb3af7ceea7d2f70acc9a3027f97a441120c384d390d46acd0", checked := Tryz.checked }
namespace Rows
def none {H : Type} : Left H := { results := [], args := [] }

/-- 'cellularlaw55.SnapshotPatterns': WHATEVER THE INPUT: true; the input reads as it did. -/
def snapshotPatternsSpec : ChangeSpec := { name := "snapshotPatterns", fn := fun _ => fun
  | [d1, d2] => { results := [.lit (.bool true)], args := [d1, d2] }
  | _ => none }
def snapshotPatternsRow : OpenClaim := { program := "ytmenokhnanghgaagreat", sum := "12519654b27a60cb3af7ceea7d2f70acc9a3027f97a441120c384d390d46acd0", func := "cellular/cellularlaw55.SnapshotPatterns", spec := "snapshotPatterns", unfollowed := true, recurses := true, plainKeys := false, apart := false }
def SnapshotPatternsSaid : Prop := snapshotPatternsRow.holds Tryz.pinned (OpenSpec.ofChange snapshotPatternsSpec)

/-- ITS FALSE NEIGHBOUR: 'it returns false'. Refute it at one input. -/
def snapshotPatternsWrong : ChangeSpec := { name := "snapshotPatterns", fn := fun _ => fun
  | [d1, d2] => { results := [.lit (.bool false)], args := [d1, d2] }
  | _ => none }
def SnapshotPatternsWrongFalsely : Prop := snapshotPatternsRow.holds Tryz.pinned (OpenSpec.ofChange snapshotPatternsWrong)

/-- 'cellularlaw55.SnapshotTrees': WHATEVER THE INPUT: true; the input reads as it did. -/
def snapshotTreesSpec : ChangeSpec := { name := "snapshotTrees", fn := fun _ => fun
  | [d1, d2] => { results := [.lit (.bool true)], args := [d1, d2] }
  | _ => none }
def snapshotTreesRow : OpenClaim := { program := "ytmenokhnanghgaagreat", sum := "12519654b27a60cb3af7ceea7d2f70acc9a3027f97a441120c384d390d46acd0", func := "cellular/cellularlaw55.SnapshotTrees", spec := "snapshotTrees", unfollowed := true, recurses := true, plainKeys := false, apart := false }
def SnapshotTreesSaid : Prop := snapshotTreesRow.holds Tryz.pinned (OpenSpec.ofChange snapshotTreesSpec)

/-- ITS FALSE NEIGHBOUR: 'it returns false'. Refute it at one input. -/
def snapshotTreesWrong : ChangeSpec := { name := "snapshotTrees", fn := fun _ => fun
  | [d1, d2] => { results := [.lit (.bool false)], args := [d1, d2] }
  | _ => none }
def SnapshotTreesWrongFalsely : Prop := snapshotTreesRow.holds Tryz.pinned (OpenSpec.ofChange snapshotTreesWrong)

/-- 'cellularlaw55.SnapshotQuads': WHATEVER THE INPUT: true; the input reads as it did. -/
def snapshotQuadsSpec : ChangeSpec := { name := "snapshotQuads", fn := fun _ => fun
  | [d1, d2] => { results := [.lit (.bool true)], args := [d1, d2] }
  | _ => none }
def snapshotQuadsRow : OpenClaim := { program := "ytmenokhnanghgaagreat", sum := "12519654b27a60cb3af7ceea7d2f70acc9a3027f97a441120c384d390d46acd0", func := "cellular/cellularlaw55.SnapshotQuads", spec := "snapshotQuads", unfollowed := true, recurses := true, plainKeys := false, apart := false }
def SnapshotQuadsSaid : Prop := snapshotQuadsRow.holds Tryz.pinned (OpenSpec.ofChange snapshotQuadsSpec)

/-- ITS FALSE NEIGHBOUR: 'it returns false'. Refute it at one input. -/
def snapshotQuadsWrong : ChangeSpec := { name := "snapshotQuads", fn := fun _ => fun
  | [d1, d2] => { results := [.lit (.bool false)], args := [d1, d2] }
  | _ => none }
def SnapshotQuadsWrongFalsely : Prop := snapshotQuadsRow.holds Tryz.pinned (OpenSpec.ofChange snapshotQuadsWrong)

/-- 'cellularlaw55.SnapshotTimelines': WHATEVER THE INPUT: true; the input reads as it did. -/
def snapshotTimelinesSpec : ChangeSpec := { name := "snapshotTimelines", fn := fun _ => fun
  | [d1, d2] => { results := [.lit (.bool true)], args := [d1, d2] }
  | _ => none }
def snapshotTimelinesRow : OpenClaim := { program := "ytmenokhnanghgaagreat", sum := "12519654b27a60cb3af7ceea7d2f70acc9a3027f97a441120c384d390d46acd0", func := "cellular/cellularlaw55.SnapshotTimelines", spec := "snapshotTimelines", unfollowed := true, recurses := true, plainKeys := false, apart := false }
def SnapshotTimelinesSaid : Prop := snapshotTimelinesRow.holds Tryz.pinned (OpenSpec.ofChange snapshotTimelinesSpec)

/-- ITS FALSE NEIGHBOUR: 'it returns false'. Refute it at one input. -/
def snapshotTimelinesWrong : ChangeSpec := { name := "snapshotTimelines", fn := fun _ => fun
  | [d1, d2] => { results := [.lit (.bool false)], args := [d1, d2] }
  | _ => none }
def SnapshotTimelinesWrongFalsely : Prop := snapshotTimelinesRow.holds Tryz.pinned (OpenSpec.ofChange snapshotTimelinesWrong)

/-- 'cellularlaw55.SnapshotRoundTrip': WHATEVER THE INPUT: true; the input reads as it did. -/
def snapshotRoundTripSpec : ChangeSpec := { name := "snapshotRoundTrip", fn := fun _ => fun
  | [d1, d2, d3] => { results := [.lit (.bool true)], args := [d1, d2, d3] }
  | _ => none }
def snapshotRoundTripRow : OpenClaim := { program := "ytmenokhnanghgaagreat", sum := "12519654b27a60cb3af7ceea7d2f70acc9a3027f97a441120c384d390d46acd0", func := "cellular/cellularlaw55.SnapshotRoundTrip", spec := "snapshotRoundTrip", unfollowed := true, recurses := true, plainKeys := false, apart := false }
def SnapshotRoundTripSaid : Prop := snapshotRoundTripRow.holds Tryz.pinned (OpenSpec.ofChange snapshotRoundTripSpec)

/-- ITS FALSE NEIGHBOUR: 'it returns false'. Refute it at one input. -/
def snapshotRoundTripWrong : ChangeSpec := { name := "snapshotRoundTrip", fn := fun _ => fun
  | [d1, d2, d3] => { results := [.lit (.bool false)], args := [d1, d2, d3] }
  | _ => none }
def SnapshotRoundTripWrongFalsely : Prop := snapshotRoundTripRow.holds Tryz.pinned (OpenSpec.ofChange snapshotRoundTripWrong)

/-- 'cellularlaw55.SnapshotForms': WHATEVER THE INPUT: true; the input reads as it did. -/
def snapshotFormsSpec : ChangeSpec := { name := "snapshotForms", fn := fun _ => fun
  | [d1, d2] => { results := [.lit (.bool true)], args := [d1, d2] }
  | _ => none }
def snapshotFormsRow : OpenClaim := { program := "ytmenokhnanghgaagreat", sum := "12519654b27a60cb3af7ceea7d2f70acc9a3027f97a441120c384d390d46acd0", func := "cellular/cellularlaw55.SnapshotForms", spec := "snapshotForms", unfollowed := true, recurses := true, plainKeys := false, apart := false }
def SnapshotFormsSaid : Prop := snapshotFormsRow.holds Tryz.pinned (OpenSpec.ofChange snapshotFormsSpec)

/-- ITS FALSE NEIGHBOUR: 'it returns false'. Refute it at one input. -/
def snapshotFormsWrong : ChangeSpec := { name := "snapshotForms", fn := fun _ => fun
  | [d1, d2] => { results := [.lit (.bool false)], args := [d1, d2] }
  | _ => none }
def SnapshotFormsWrongFalsely : Prop := snapshotFormsRow.holds Tryz.pinned (OpenSpec.ofChange snapshotFormsWrong)

/- THE SECOND FORM. 'bulk': how many values and letters a reading holds, each counted each time it is reached (what is shared counts as often as it is met; a slice's spare places count too). A statement '..UptoSaid' is the law's where the arguments, and the package variables that the reading takes, are together of bulk at most 1048576: NARROWER than '..Said'. Prove '..Said' where nothing that the law and all that it calls make is longer than what came in: it says more and counts as full. Else prove '..UptoSaid'. A law counts once. -/
mutual
def uptoBulk {H : Type} : DataW H → Nat
  | .lit (.string bytes) => bytes.length + 1
  | .lit _ => 1
  | .nil => 1
  | .ptr d => uptoBulk d + 1
  | .slice elems spare => uptoBulkAll elems + uptoBulkAll spare + 1
  | .agg parts => uptoBulkAll parts + 1
  | .iface _ d => uptoBulk d + 1
  | .map entries => uptoBulkEntries entries + 1
  | .held _ => 1
def uptoBulkAll {H : Type} : List (DataW H) → Nat
  | [] => 0
  | d :: r => uptoBulk d + uptoBulkAll r
def uptoBulkEntries {H : Type} : List (Lit × DataW H) → Nat
  | [] => 0
  | x :: r => uptoBulkEntry x + uptoBulkEntries r
def uptoBulkEntry {H : Type} : Lit × DataW H → Nat
  | (.string bytes, d) => bytes.length + uptoBulk d + 1
  | (_, d) => uptoBulk d + 1
 end
def uptoSmall : (H : Type) → List (DataW H) → Bool := fun _ ds => decide (uptoBulkAll ds ≤ 1048576)
def OpenSpec.upto (s : _root_.Go.ChangeSpec) : _root_.Go.OpenSpec := { _root_.Go.OpenSpec.ofChange s with cond := some uptoSmall }

/-- 'cellularlaw55.SnapshotPatterns', WHERE WHAT IT READS IS OF BULK AT MOST 1048576: true; the input reads as it did. -/
def snapshotPatternsUptoRow : OpenClaim := { program := "ytmenokhnanghgaagreat", sum := "12519654b27a60cb3af7ceea7d2f70acc9a3027f97a441120c384d390d46acd0", func := "cellular/cellularlaw55.SnapshotPatterns", spec := "snapshotPatterns", unfollowed := true, recurses := true, plainKeys := false, apart := false, narrowed := true }
def SnapshotPatternsUptoSaid : Prop := snapshotPatternsUptoRow.holds Tryz.pinned (OpenSpec.upto snapshotPatternsSpec)

/-- 'cellularlaw55.SnapshotTrees', WHERE WHAT IT READS IS OF BULK AT MOST 1048576: true; the input reads as it did. -/
def snapshotTreesUptoRow : OpenClaim := { program := "ytmenokhnanghgaagreat", sum := "12519654b27a60cb3af7ceea7d2f70acc9a3027f97a441120c384d390d46acd0", func := "cellular/cellularlaw55.SnapshotTrees", spec := "snapshotTrees", unfollowed := true, recurses := true, plainKeys := false, apart := false, narrowed := true }
def SnapshotTreesUptoSaid : Prop := snapshotTreesUptoRow.holds Tryz.pinned (OpenSpec.upto snapshotTreesSpec)

/-- 'cellularlaw55.SnapshotQuads', WHERE WHAT IT READS IS OF BULK AT MOST 1048576: true; the input reads as it did. -/
def snapshotQuadsUptoRow : OpenClaim := { program := "ytmenokhnanghgaagreat", sum := "12519654b27a60cb3af7ceea7d2f70acc9a3027f97a441120c384d390d46acd0", func := "cellular/cellularlaw55.SnapshotQuads", spec := "snapshotQuads", unfollowed := true, recurses := true, plainKeys := false, apart := false, narrowed := true }
def SnapshotQuadsUptoSaid : Prop := snapshotQuadsUptoRow.holds Tryz.pinned (OpenSpec.upto snapshotQuadsSpec)

/-- 'cellularlaw55.SnapshotTimelines', WHERE WHAT IT READS IS OF BULK AT MOST 1048576: true; the input reads as it did. -/
def snapshotTimelinesUptoRow : OpenClaim := { program := "ytmenokhnanghgaagreat", sum := "12519654b27a60cb3af7ceea7d2f70acc9a3027f97a441120c384d390d46acd0", func := "cellular/cellularlaw55.SnapshotTimelines", spec := "snapshotTimelines", unfollowed := true, recurses := true, plainKeys := false, apart := false, narrowed := true }
def SnapshotTimelinesUptoSaid : Prop := snapshotTimelinesUptoRow.holds Tryz.pinned (OpenSpec.upto snapshotTimelinesSpec)

/-- 'cellularlaw55.SnapshotRoundTrip', WHERE WHAT IT READS IS OF BULK AT MOST 1048576: true; the input reads as it did. -/
def snapshotRoundTripUptoRow : OpenClaim := { program := "ytmenokhnanghgaagreat", sum := "12519654b27a60cb3af7ceea7d2f70acc9a3027f97a441120c384d390d46acd0", func := "cellular/cellularlaw55.SnapshotRoundTrip", spec := "snapshotRoundTrip", unfollowed := true, recurses := true, plainKeys := false, apart := false, narrowed := true }
def SnapshotRoundTripUptoSaid : Prop := snapshotRoundTripUptoRow.holds Tryz.pinned (OpenSpec.upto snapshotRoundTripSpec)

/-- 'cellularlaw55.SnapshotForms', WHERE WHAT IT READS IS OF BULK AT MOST 1048576: true; the input reads as it did. -/
def snapshotFormsUptoRow : OpenClaim := { program := "ytmenokhnanghgaagreat", sum := "12519654b27a60cb3af7ceea7d2f70acc9a3027f97a441120c384d390d46acd0", func := "cellular/cellularlaw55.SnapshotForms", spec := "snapshotForms", unfollowed := true, recurses := true, plainKeys := false, apart := false, narrowed := true }
def SnapshotFormsUptoSaid : Prop := snapshotFormsUptoRow.holds Tryz.pinned (OpenSpec.upto snapshotFormsSpec)

end Rows
end Go.Proofs.YtmenokhnanghgaaGreat
