/-
  No cell of these rows narrows 'for every input' (looked for: loops, veiled, ifaces, maps, wideKeys, modest, calm, conditions, laid).
  DERIVED. THE GIVEN ROWS OF THIS SEAT. 12 by the template 'for every input the law returns true; each argument reads behind the call as it read before'; 0 by the template 'total and deterministic' (their statements: YtabfefhicfmabaaGreatTotals.lean).
  GIVEN WITH THE SEED: the statements are not yours to turn. If you find one false, say at which input.
  Laid BY PROGRAM, IN A SANDBOX (cutbox-rows.mjs): the forced cells as the released guide's own fill.sh prints them over the translation e27e137813d3ab0a… (all of the seat's roots in one cut). By AI agents, Wed Nov 11 2026. No macro, syntax, notation, axiom, sorry.
-/
import Derived.Test.YtabfefhicfmabaaGreatChecked
import GoSem.Claim
import GoSem.ClaimJoined
import GoSem.ClaimMapViews
import Derived.JoinedTies
import Derived.KernelRfl
namespace Go.Proofs.YtabfefhicfmabaaGreat
/- THE CELL 'sum', in the pinned program and in every row, IS THE sha256 OF THE DUMP (.gsa) THAT YtabfefhicfmabaaGreatProg.lean LOADS. Nothing in Lean hashes anything: it is a label: what it is worth is what the hold of that sum in a sandbox is worth. -/
noncomputable def Tryz.pinned : Pinned := { name := "ytabfefhicfmabaagreat", sum := "e27e137813d3ab0a6bfd604ceefd5e52729a2b52a8fe6cd2ae3a08edf1aee613", checked := Tryz.checked }
namespace Rows
def none {H : Type} : Left H := { results := [], args := [] }

/-- 'cellularlaw54.TimelineRecords': WHATEVER THE INPUT: true; the input reads as it did. -/
def timelineRecordsSpec : ChangeSpec := { name := "timelineRecords", fn := fun _ => fun
  | [d1, d2, d3] => { results := [.lit (.bool true)], args := [d1, d2, d3] }
  | _ => none }
def timelineRecordsRow : OpenClaim := { program := "ytabfefhicfmabaagreat", sum := "e27e137813d3ab0a6bfd604ceefd5e52729a2b52a8fe6cd2ae3a08edf1aee613", func := "cellular/cellularlaw54.TimelineRecords", spec := "timelineRecords", unfollowed := true, recurses := true, plainKeys := false, apart := false }
def TimelineRecordsSaid : Prop := timelineRecordsRow.holds Tryz.pinned (OpenSpec.ofChange timelineRecordsSpec)

/-- ITS FALSE NEIGHBOUR: 'it returns false'. Refute it at one input. -/
def timelineRecordsWrong : ChangeSpec := { name := "timelineRecords", fn := fun _ => fun
  | [d1, d2, d3] => { results := [.lit (.bool false)], args := [d1, d2, d3] }
  | _ => none }
def TimelineRecordsWrongFalsely : Prop := timelineRecordsRow.holds Tryz.pinned (OpenSpec.ofChange timelineRecordsWrong)

/-- 'cellularlaw54.TimelineRuns': WHATEVER THE INPUT: true; the input reads as it did. -/
def timelineRunsSpec : ChangeSpec := { name := "timelineRuns", fn := fun _ => fun
  | [d1, d2, d3] => { results := [.lit (.bool true)], args := [d1, d2, d3] }
  | _ => none }
def timelineRunsRow : OpenClaim := { program := "ytabfefhicfmabaagreat", sum := "e27e137813d3ab0a6bfd604ceefd5e52729a2b52a8fe6cd2ae3a08edf1aee613", func := "cellular/cellularlaw54.TimelineRuns", spec := "timelineRuns", unfollowed := true, recurses := true, plainKeys := false, apart := false }
def TimelineRunsSaid : Prop := timelineRunsRow.holds Tryz.pinned (OpenSpec.ofChange timelineRunsSpec)

/-- ITS FALSE NEIGHBOUR: 'it returns false'. Refute it at one input. -/
def timelineRunsWrong : ChangeSpec := { name := "timelineRuns", fn := fun _ => fun
  | [d1, d2, d3] => { results := [.lit (.bool false)], args := [d1, d2, d3] }
  | _ => none }
def TimelineRunsWrongFalsely : Prop := timelineRunsRow.holds Tryz.pinned (OpenSpec.ofChange timelineRunsWrong)

/-- 'cellularlaw54.TimelineRight': WHATEVER THE INPUT: true; the input reads as it did. -/
def timelineRightSpec : ChangeSpec := { name := "timelineRight", fn := fun _ => fun
  | [d1, d2] => { results := [.lit (.bool true)], args := [d1, d2] }
  | _ => none }
def timelineRightRow : OpenClaim := { program := "ytabfefhicfmabaagreat", sum := "e27e137813d3ab0a6bfd604ceefd5e52729a2b52a8fe6cd2ae3a08edf1aee613", func := "cellular/cellularlaw54.TimelineRight", spec := "timelineRight", unfollowed := true, recurses := true, plainKeys := false, apart := false }
def TimelineRightSaid : Prop := timelineRightRow.holds Tryz.pinned (OpenSpec.ofChange timelineRightSpec)

/-- ITS FALSE NEIGHBOUR: 'it returns false'. Refute it at one input. -/
def timelineRightWrong : ChangeSpec := { name := "timelineRight", fn := fun _ => fun
  | [d1, d2] => { results := [.lit (.bool false)], args := [d1, d2] }
  | _ => none }
def TimelineRightWrongFalsely : Prop := timelineRightRow.holds Tryz.pinned (OpenSpec.ofChange timelineRightWrong)

/-- 'cellularlaw54.TimelineAppends': WHATEVER THE INPUT: true; the input reads as it did. -/
def timelineAppendsSpec : ChangeSpec := { name := "timelineAppends", fn := fun _ => fun
  | [d1, d2, d3] => { results := [.lit (.bool true)], args := [d1, d2, d3] }
  | _ => none }
def timelineAppendsRow : OpenClaim := { program := "ytabfefhicfmabaagreat", sum := "e27e137813d3ab0a6bfd604ceefd5e52729a2b52a8fe6cd2ae3a08edf1aee613", func := "cellular/cellularlaw54.TimelineAppends", spec := "timelineAppends", unfollowed := true, recurses := true, plainKeys := false, apart := false }
def TimelineAppendsSaid : Prop := timelineAppendsRow.holds Tryz.pinned (OpenSpec.ofChange timelineAppendsSpec)

/-- ITS FALSE NEIGHBOUR: 'it returns false'. Refute it at one input. -/
def timelineAppendsWrong : ChangeSpec := { name := "timelineAppends", fn := fun _ => fun
  | [d1, d2, d3] => { results := [.lit (.bool false)], args := [d1, d2, d3] }
  | _ => none }
def TimelineAppendsWrongFalsely : Prop := timelineAppendsRow.holds Tryz.pinned (OpenSpec.ofChange timelineAppendsWrong)

/-- 'cellularlaw54.TimelineCuts': WHATEVER THE INPUT: true; the input reads as it did. -/
def timelineCutsSpec : ChangeSpec := { name := "timelineCuts", fn := fun _ => fun
  | [d1, d2, d3] => { results := [.lit (.bool true)], args := [d1, d2, d3] }
  | _ => none }
def timelineCutsRow : OpenClaim := { program := "ytabfefhicfmabaagreat", sum := "e27e137813d3ab0a6bfd604ceefd5e52729a2b52a8fe6cd2ae3a08edf1aee613", func := "cellular/cellularlaw54.TimelineCuts", spec := "timelineCuts", unfollowed := true, recurses := true, plainKeys := false, apart := false }
def TimelineCutsSaid : Prop := timelineCutsRow.holds Tryz.pinned (OpenSpec.ofChange timelineCutsSpec)

/-- ITS FALSE NEIGHBOUR: 'it returns false'. Refute it at one input. -/
def timelineCutsWrong : ChangeSpec := { name := "timelineCuts", fn := fun _ => fun
  | [d1, d2, d3] => { results := [.lit (.bool false)], args := [d1, d2, d3] }
  | _ => none }
def TimelineCutsWrongFalsely : Prop := timelineCutsRow.holds Tryz.pinned (OpenSpec.ofChange timelineCutsWrong)

/-- 'cellularlaw54.TimelinePieces': WHATEVER THE INPUT: true; the input reads as it did. -/
def timelinePiecesSpec : ChangeSpec := { name := "timelinePieces", fn := fun _ => fun
  | [d] => { results := [.lit (.bool true)], args := [d] }
  | _ => none }
def timelinePiecesRow : OpenClaim := { program := "ytabfefhicfmabaagreat", sum := "e27e137813d3ab0a6bfd604ceefd5e52729a2b52a8fe6cd2ae3a08edf1aee613", func := "cellular/cellularlaw54.TimelinePieces", spec := "timelinePieces", unfollowed := true, recurses := true, plainKeys := false, apart := false }
def TimelinePiecesSaid : Prop := timelinePiecesRow.holds Tryz.pinned (OpenSpec.ofChange timelinePiecesSpec)

/-- ITS FALSE NEIGHBOUR: 'it returns false'. Refute it at one input. -/
def timelinePiecesWrong : ChangeSpec := { name := "timelinePieces", fn := fun _ => fun
  | [d] => { results := [.lit (.bool false)], args := [d] }
  | _ => none }
def TimelinePiecesWrongFalsely : Prop := timelinePiecesRow.holds Tryz.pinned (OpenSpec.ofChange timelinePiecesWrong)

/-- 'cellularlaw54.TimelineDiffs': WHATEVER THE INPUT: true; the input reads as it did. -/
def timelineDiffsSpec : ChangeSpec := { name := "timelineDiffs", fn := fun _ => fun
  | [d1, d2] => { results := [.lit (.bool true)], args := [d1, d2] }
  | _ => none }
def timelineDiffsRow : OpenClaim := { program := "ytabfefhicfmabaagreat", sum := "e27e137813d3ab0a6bfd604ceefd5e52729a2b52a8fe6cd2ae3a08edf1aee613", func := "cellular/cellularlaw54.TimelineDiffs", spec := "timelineDiffs", unfollowed := true, recurses := true, plainKeys := false, apart := false }
def TimelineDiffsSaid : Prop := timelineDiffsRow.holds Tryz.pinned (OpenSpec.ofChange timelineDiffsSpec)

/-- ITS FALSE NEIGHBOUR: 'it returns false'. Refute it at one input. -/
def timelineDiffsWrong : ChangeSpec := { name := "timelineDiffs", fn := fun _ => fun
  | [d1, d2] => { results := [.lit (.bool false)], args := [d1, d2] }
  | _ => none }
def TimelineDiffsWrongFalsely : Prop := timelineDiffsRow.holds Tryz.pinned (OpenSpec.ofChange timelineDiffsWrong)

/-- 'cellularlaw54.TimelineFollows': WHATEVER THE INPUT: true; the input reads as it did. -/
def timelineFollowsSpec : ChangeSpec := { name := "timelineFollows", fn := fun _ => fun
  | [d1, d2] => { results := [.lit (.bool true)], args := [d1, d2] }
  | _ => none }
def timelineFollowsRow : OpenClaim := { program := "ytabfefhicfmabaagreat", sum := "e27e137813d3ab0a6bfd604ceefd5e52729a2b52a8fe6cd2ae3a08edf1aee613", func := "cellular/cellularlaw54.TimelineFollows", spec := "timelineFollows", unfollowed := true, recurses := true, plainKeys := false, apart := false }
def TimelineFollowsSaid : Prop := timelineFollowsRow.holds Tryz.pinned (OpenSpec.ofChange timelineFollowsSpec)

/-- ITS FALSE NEIGHBOUR: 'it returns false'. Refute it at one input. -/
def timelineFollowsWrong : ChangeSpec := { name := "timelineFollows", fn := fun _ => fun
  | [d1, d2] => { results := [.lit (.bool false)], args := [d1, d2] }
  | _ => none }
def TimelineFollowsWrongFalsely : Prop := timelineFollowsRow.holds Tryz.pinned (OpenSpec.ofChange timelineFollowsWrong)

/-- 'cellularlaw55.SnapshotPatterns': WHATEVER THE INPUT: true; the input reads as it did. -/
def snapshotPatternsSpec : ChangeSpec := { name := "snapshotPatterns", fn := fun _ => fun
  | [d1, d2] => { results := [.lit (.bool true)], args := [d1, d2] }
  | _ => none }
def snapshotPatternsRow : OpenClaim := { program := "ytabfefhicfmabaagreat", sum := "e27e137813d3ab0a6bfd604ceefd5e52729a2b52a8fe6cd2ae3a08edf1aee613", func := "cellular/cellularlaw55.SnapshotPatterns", spec := "snapshotPatterns", unfollowed := true, recurses := true, plainKeys := false, apart := false }
def SnapshotPatternsSaid : Prop := snapshotPatternsRow.holds Tryz.pinned (OpenSpec.ofChange snapshotPatternsSpec)

/-- ITS FALSE NEIGHBOUR: 'it returns false'. Refute it at one input. -/
def snapshotPatternsWrong : ChangeSpec := { name := "snapshotPatterns", fn := fun _ => fun
  | [d1, d2] => { results := [.lit (.bool false)], args := [d1, d2] }
  | _ => none }
def SnapshotPatternsWrongFalsely : Prop := snapshotPatternsRow.holds Tryz.pinned (OpenSpec.ofChange snapshotPatternsWrong)

/-- 'cellularlaw55.SnapshotTrees': WHATEVER THE INPUT: true; the input reads as it did. -/
def snapshotTreesSpec : ChangeSpec := { name := "snapshotTrees", fn := fun _ => fun
  | [d1, d2] => { results := [.lit (.bool true)], args := [d1, d2] }
  | _ => none }
def snapshotTreesRow : OpenClaim := { program := "ytabfefhicfmabaagreat", sum := "e27e137813d3ab0a6bfd604ceefd5e52729a2b52a8fe6cd2ae3a08edf1aee613", func := "cellular/cellularlaw55.SnapshotTrees", spec := "snapshotTrees", unfollowed := true, recurses := true, plainKeys := false, apart := false }
def SnapshotTreesSaid : Prop := snapshotTreesRow.holds Tryz.pinned (OpenSpec.ofChange snapshotTreesSpec)

/-- ITS FALSE NEIGHBOUR: 'it returns false'. Refute it at one input. -/
def snapshotTreesWrong : ChangeSpec := { name := "snapshotTrees", fn := fun _ => fun
  | [d1, d2] => { results := [.lit (.bool false)], args := [d1, d2] }
  | _ => none }
def SnapshotTreesWrongFalsely : Prop := snapshotTreesRow.holds Tryz.pinned (OpenSpec.ofChange snapshotTreesWrong)

/-- 'cellularlaw55.SnapshotQuads': WHATEVER THE INPUT: true; the input reads as it did. -/
def snapshotQuadsSpec : ChangeSpec := { name := "snapshotQuads", fn := fun _ => fun
  | [d1, d2] => { results := [.lit (.bool true)], args := [d1, d2] }
  | _ => none }
def snapshotQuadsRow : OpenClaim := { program := "ytabfefhicfmabaagreat", sum := "e27e137813d3ab0a6bfd604ceefd5e52729a2b52a8fe6cd2ae3a08edf1aee613", func := "cellular/cellularlaw55.SnapshotQuads", spec := "snapshotQuads", unfollowed := true, recurses := true, plainKeys := false, apart := false }
def SnapshotQuadsSaid : Prop := snapshotQuadsRow.holds Tryz.pinned (OpenSpec.ofChange snapshotQuadsSpec)

/-- ITS FALSE NEIGHBOUR: 'it returns false'. Refute it at one input. -/
def snapshotQuadsWrong : ChangeSpec := { name := "snapshotQuads", fn := fun _ => fun
  | [d1, d2] => { results := [.lit (.bool false)], args := [d1, d2] }
  | _ => none }
def SnapshotQuadsWrongFalsely : Prop := snapshotQuadsRow.holds Tryz.pinned (OpenSpec.ofChange snapshotQuadsWrong)

/-- 'cellularlaw55.SnapshotTimelines': WHATEVER THE INPUT: true; the input reads as it did. -/
def snapshotTimelinesSpec : ChangeSpec := { name := "snapshotTimelines", fn := fun _ => fun
  | [d1, d2] => { results := [.lit (.bool true)], args := [d1, d2] }
  | _ => none }
def snapshotTimelinesRow : OpenClaim := { program := "ytabfefhicfmabaagreat", sum := "e27e137813d3ab0a6bfd604ceefd5e52729a2b52a8fe6cd2ae3a08edf1aee613", func := "cellular/cellularlaw55.SnapshotTimelines", spec := "snapshotTimelines", unfollowed := true, recurses := true, plainKeys := false, apart := false }
def SnapshotTimelinesSaid : Prop := snapshotTimelinesRow.holds Tryz.pinned (OpenSpec.ofChange snapshotTimelinesSpec)

/-- ITS FALSE NEIGHBOUR: 'it returns false'. Refute it at one input. -/
def snapshotTimelinesWrong : ChangeSpec := { name := "snapshotTimelines", fn := fun _ => fun
  | [d1, d2] => { results := [.lit (.bool false)], args := [d1, d2] }
  | _ => none }
def SnapshotTimelinesWrongFalsely : Prop := snapshotTimelinesRow.holds Tryz.pinned (OpenSpec.ofChange snapshotTimelinesWrong)

/- THE SECOND FORM. 'bulk': how many values and letters a reading holds, each counted each time it is reached (what is shared counts as often as it is met; a slice's spare places count too). A statement '..UptoSaid' is the law's where the arguments, and the package variables that the reading takes, are together of bulk at most 1048576: NARROWER than '..Said'. Prove '..Said' where nothing that the law and all that it calls make is longer than what came in: it says more and counts as full. Else prove '..UptoSaid'. A law counts once. -/
mutual
def uptoBulk {H : Type} : DataW H → Nat
  | .lit (.string bytes) => bytes.length + 1
  | .lit _ => 1
  | .nil => 1
  | .ptr d => uptoBulk d + 1
  | .slice elems spare => uptoBulkAll elems + uptoBulkAll spare + 1
  | .agg parts => uptoBulkAll parts + 1
  | .iface _ d => uptoBulk d + 1
  | .map entries => uptoBulkEntries entries + 1
  | .held _ => 1
def uptoBulkAll {H : Type} : List (DataW H) → Nat
  | [] => 0
  | d :: r => uptoBulk d + uptoBulkAll r
def uptoBulkEntries {H : Type} : List (Lit × DataW H) → Nat
  | [] => 0
  | x :: r => uptoBulkEntry x + uptoBulkEntries r
def uptoBulkEntry {H : Type} : Lit × DataW H → Nat
  | (.string bytes, d) => bytes.length + uptoBulk d + 1
  | (_, d) => uptoBulk d + 1
 end
def uptoSmall : (H : Type) → List (DataW H) → Bool := fun _ ds => decide (uptoBulkAll ds ≤ 1048576)
def OpenSpec.upto (s : _root_.Go.ChangeSpec) : _root_.Go.OpenSpec := { _root_.Go.OpenSpec.ofChange s with cond := some uptoSmall }

/-- 'cellularlaw54.TimelineRecords', WHERE WHAT IT READS IS OF BULK AT MOST 1048576: true; the input reads as it did. -/
def timelineRecordsUptoRow : OpenClaim := { program := "ytabfefhicfmabaagreat", sum := "e27e137813d3ab0a6bfd604ceefd5e52729a2b52a8fe6cd2ae3a08edf1aee613", func := "cellular/cellularlaw54.TimelineRecords", spec := "timelineRecords", unfollowed := true, recurses := true, plainKeys := false, apart := false, narrowed := true }
def TimelineRecordsUptoSaid : Prop := timelineRecordsUptoRow.holds Tryz.pinned (OpenSpec.upto timelineRecordsSpec)

/-- 'cellularlaw54.TimelineRuns', WHERE WHAT IT READS IS OF BULK AT MOST 1048576: true; the input reads as it did. -/
def timelineRunsUptoRow : OpenClaim := { program := "ytabfefhicfmabaagreat", sum := "e27e137813d3ab0a6bfd604ceefd5e52729a2b52a8fe6cd2ae3a08edf1aee613", func := "cellular/cellularlaw54.TimelineRuns", spec := "timelineRuns", unfollowed := true, recurses := true, plainKeys := false, apart := false, narrowed := true }
def TimelineRunsUptoSaid : Prop := timelineRunsUptoRow.holds Tryz.pinned (OpenSpec.upto timelineRunsSpec)

/-- 'cellularlaw54.TimelineRight', WHERE WHAT IT READS IS OF BULK AT MOST 1048576: true; the input reads as it did. -/
def timelineRightUptoRow : OpenClaim := { program := "ytabfefhicfmabaagreat", sum := "e27e137813d3ab0a6bfd604ceefd5e52729a2b52a8fe6cd2ae3a08edf1aee613", func := "cellular/cellularlaw54.TimelineRight", spec := "timelineRight", unfollowed := true, recurses := true, plainKeys := false, apart := false, narrowed := true }
def TimelineRightUptoSaid : Prop := timelineRightUptoRow.holds Tryz.pinned (OpenSpec.upto timelineRightSpec)

/-- 'cellularlaw54.TimelineAppends', WHERE WHAT IT READS IS OF BULK AT MOST 1048576: true; the input reads as it did. -/
def timelineAppendsUptoRow : OpenClaim := { program := "ytabfefhicfmabaagreat", sum := "e27e137813d3ab0a6bfd604ceefd5e52729a2b52a8fe6cd2ae3a08edf1aee613", func := "cellular/cellularlaw54.TimelineAppends", spec := "timelineAppends", unfollowed := true, recurses := true, plainKeys := false, apart := false, narrowed := true }
def TimelineAppendsUptoSaid : Prop := timelineAppendsUptoRow.holds Tryz.pinned (OpenSpec.upto timelineAppendsSpec)

/-- 'cellularlaw54.TimelineCuts', WHERE WHAT IT READS IS OF BULK AT MOST 1048576: true; the input reads as it did. -/
def timelineCutsUptoRow : OpenClaim := { program := "ytabfefhicfmabaagreat", sum := "e27e137813d3ab0a6bfd604ceefd5e52729a2b52a8fe6cd2ae3a08edf1aee613", func := "cellular/cellularlaw54.TimelineCuts", spec := "timelineCuts", unfollowed := true, recurses := true, plainKeys := false, apart := false, narrowed := true }
def TimelineCutsUptoSaid : Prop := timelineCutsUptoRow.holds Tryz.pinned (OpenSpec.upto timelineCutsSpec)

/-- 'cellularlaw54.TimelinePieces', WHERE WHAT IT READS IS OF BULK AT MOST 1048576: true; the input reads as it did. -/
def timelinePiecesUptoRow : OpenClaim := { program := "ytabfefhicfmabaagreat", sum := "e27e137813d3ab0a6bfd604ceefd5e52729a2b52a8fe6cd2ae3a08edf1aee613", func := "cellular/cellularlaw54.TimelinePieces", spec := "timelinePieces", unfollowed := true, recurses := true, plainKeys := false, apart := false, narrowed := true }
def TimelinePiecesUptoSaid : Prop := timelinePiecesUptoRow.holds Tryz.pinned (OpenSpec.upto timelinePiecesSpec)

/-- 'cellularlaw54.TimelineDiffs', WHERE WHAT IT READS IS OF BULK AT MOST 1048576: true; the input reads as it did. -/
def timelineDiffsUptoRow : OpenClaim := { program := "ytabfefhicfmabaagreat", sum := "e27e137813d3ab0a6bfd604ceefd5e52729a2b52a8fe6cd2ae3a08edf1aee613", func := "cellular/cellularlaw54.TimelineDiffs", spec := "timelineDiffs", unfollowed := true, recurses := true, plainKeys := false, apart := false, narrowed := true }
def TimelineDiffsUptoSaid : Prop := timelineDiffsUptoRow.holds Tryz.pinned (OpenSpec.upto timelineDiffsSpec)

/-- 'cellularlaw54.TimelineFollows', WHERE WHAT IT READS IS OF BULK AT MOST 1048576: true; the input reads as it did. -/
def timelineFollowsUptoRow : OpenClaim := { program := "ytabfefhicfmabaagreat", sum := "e27e137813d3ab0a6bfd604ceefd5e52729a2b52a8fe6cd2ae3a08edf1aee613", func := "cellular/cellularlaw54.TimelineFollows", spec := "timelineFollows", unfollowed := true, recurses := true, plainKeys := false, apart := false, narrowed := true }
def TimelineFollowsUptoSaid : Prop := timelineFollowsUptoRow.holds Tryz.pinned (OpenSpec.upto timelineFollowsSpec)

/-- 'cellularlaw55.SnapshotPatterns', WHERE WHAT IT READS IS OF BULK AT MOST 1048576: true; the input reads as it did. -/
def snapshotPatternsUptoRow : OpenClaim := { program := "ytabfefhicfmabaagreat", sum := "e27e137813d3ab0a6bfd604ceefd5e52729a2b52a8fe6cd2ae3a08edf1aee613", func := "cellular/cellularlaw55.SnapshotPatterns", spec := "snapshotPatterns", unfollowed := true, recurses := true, plainKeys := false, apart := false, narrowed := true }
def SnapshotPatternsUptoSaid : Prop := snapshotPatternsUptoRow.holds Tryz.pinned (OpenSpec.upto snapshotPatternsSpec)

/-- 'cellularlaw55.SnapshotTrees', WHERE WHAT IT READS IS OF BULK AT MOST 1048576: true; the input reads as it did. -/
def snapshotTreesUptoRow : OpenClaim := { program := "ytabfefhicfmabaagreat", sum := "e27e137813d3ab0a6bfd604ceefd5e52729a2b52a8fe6cd2ae3a08edf1aee613", func := "cellular/cellularlaw55.SnapshotTrees", spec := "snapshotTrees", unfollowed := true, recurses := true, plainKeys := false, apart := false, narrowed := true }
def SnapshotTreesUptoSaid : Prop := snapshotTreesUptoRow.holds Tryz.pinned (OpenSpec.upto snapshotTreesSpec)

/-- 'cellularlaw55.SnapshotQuads', WHERE WHAT IT READS IS OF BULK AT MOST 1048576: true; the input reads as it did. -/
def snapshotQuadsUptoRow : OpenClaim := { program := "ytabfefhicfmabaagreat", sum := "e27e137813d3ab0a6bfd604ceefd5e52729a2b52a8fe6cd2ae3a08edf1aee613", func := "cellular/cellularlaw55.SnapshotQuads", spec := "snapshotQuads", unfollowed := true, recurses := true, plainKeys := false, apart := false, narrowed := true }
def SnapshotQuadsUptoSaid : Prop := snapshotQuadsUptoRow.holds Tryz.pinned (OpenSpec.upto snapshotQuadsSpec)

/-- 'cellularlaw55.SnapshotTimelines', WHERE WHAT IT READS IS OF BULK AT MOST 1048576: true; the input reads as it did. -/
def snapshotTimelinesUptoRow : OpenClaim := { program := "ytabfefhicfmabaagreat", sum := "e27e137813d3ab0a6bfd604ceefd5e52729a2b52a8fe6cd2ae3a08edf1aee613", func := "cellular/cellularlaw55.SnapshotTimelines", spec := "snapshotTimelines", unfollowed := true, recurses := true, plainKeys := false, apart := false, narrowed := true }
def SnapshotTimelinesUptoSaid : Prop := snapshotTimelinesUptoRow.holds Tryz.pinned (OpenSpec.upto snapshotTimelinesSpec)

end Rows
end Go.Proofs.YtabfefhicfmabaaGreat
