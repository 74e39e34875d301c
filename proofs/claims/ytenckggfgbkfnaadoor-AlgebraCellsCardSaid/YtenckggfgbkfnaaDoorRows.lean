/-
  NARROWER THAN 'FOR EVERY INPUT', by the rows' own cells (each row's printed sentence says how): AlgebraOvers: laid · AlgebraTurns: laid · AlgebraTiles: laid · AlgebraParts: laid · AlgebraCells: laid · AlgebraSets: laid · AlgebraGroup: laid.
  DERIVED. THE GIVEN ROWS OF THIS SEAT. 7 by the template 'for every input the law returns true; each argument reads behind the call as it read before'; 0 by the template 'total and deterministic' (their statements: YtenckggfgbkfnaaDoorTotals.lean).
  GIVEN WITH THE SEED: the statements are not yours to turn. If you find one false, say at which input.
  Laid BY PROGRAM, IN A SANDBOX (cutbox-rows.mjs): the forced cells as the released guide's own fill.sh prints them over the translation f8449bbe8970dabc… (all of the seat's roots in one cut). By AI agents, Wed Nov 11 2026. No macro, syntax, notation, axiom, sorry.
-/
import Derived.Test.YtenckggfgbkfnaaDoorChecked
import GoSem.Claim
import GoSem.ClaimJoined
import GoSem.ClaimMapViews
import Derived.JoinedTies
import Derived.KernelRfl
namespace Go.Proofs.YtenckggfgbkfnaaDoor
/- THE CELL 'sum', in the pinned program and in every row, IS THE sha256 OF THE DUMP (.gsa) THAT YtenckggfgbkfnaaDoorProg.lean LOADS. Nothing in Lean hashes anything: it is a label: what it is worth is what the hold of that sum in a sandbox is worth. -/
noncomputable def Tryd.pinned : Pinned := { name := "ytenckggfgbkfnaadoor", sum := "f8449bbe8970dabcf01543495551e7aa6ba029ea8944aa1646b12258d29cffa8", checked := Tryd.checked }
namespace Rows
def none {H : Type} : Left H := { results := [], args := [] }

/- WHAT THE LISTED PACKAGE-LEVEL VARIABLES READ AS WHEN THE CALL BEGINS. Each datum BY PROGRAM (the guide's laid-datum.mjs) off the statement by which the dump's own 'gosem.cut.vars' lays the variable. In a bare row this is a premise. The card (YtenckggfgbkfnaaDoorCards.lean) ties it to the program's text. -/
def laid_cellular_symmetry_matrices {H : Type} : DataW H := .agg [.agg [.lit (.int .i64 1), .lit (.int .i64 0), .lit (.int .i64 0), .lit (.int .i64 1)], .agg [.lit (.int .i64 0), .lit (.int .i64 (-1)), .lit (.int .i64 1), .lit (.int .i64 0)], .agg [.lit (.int .i64 (-1)), .lit (.int .i64 0), .lit (.int .i64 0), .lit (.int .i64 (-1))], .agg [.lit (.int .i64 0), .lit (.int .i64 1), .lit (.int .i64 (-1)), .lit (.int .i64 0)], .agg [.lit (.int .i64 (-1)), .lit (.int .i64 0), .lit (.int .i64 0), .lit (.int .i64 1)], .agg [.lit (.int .i64 0), .lit (.int .i64 (-1)), .lit (.int .i64 (-1)), .lit (.int .i64 0)], .agg [.lit (.int .i64 1), .lit (.int .i64 0), .lit (.int .i64 0), .lit (.int .i64 (-1))], .agg [.lit (.int .i64 0), .lit (.int .i64 1), .lit (.int .i64 1), .lit (.int .i64 0)]]

/-- 'cellularlaw06.AlgebraOvers': WHATEVER THE INPUT: true; the input reads as it did. -/
def algebraOversSpec : ChangeSpec := { name := "algebraOvers", fn := fun _ => fun
  | [d1, d2] => { results := [.lit (.bool true)], args := [d1, d2] }
  | _ => none }
def algebraOversRow : OpenClaim := { program := "ytenckggfgbkfnaadoor", sum := "f8449bbe8970dabcf01543495551e7aa6ba029ea8944aa1646b12258d29cffa8", func := "cellular/cellularlaw06.AlgebraOvers", spec := "algebraOvers", unfollowed := true, recurses := true, named := ["cellular/symmetry.matrices"], plainKeys := false, apart := false, laid := [("cellular/symmetry.matrices", laid_cellular_symmetry_matrices)] }
def AlgebraOversSaid : Prop := algebraOversRow.holds Tryd.pinned (OpenSpec.ofChange algebraOversSpec)

/-- ITS FALSE NEIGHBOUR: 'it returns false'. Refute it at one input. -/
def algebraOversWrong : ChangeSpec := { name := "algebraOvers", fn := fun _ => fun
  | [d1, d2] => { results := [.lit (.bool false)], args := [d1, d2] }
  | _ => none }
def AlgebraOversWrongFalsely : Prop := algebraOversRow.holds Tryd.pinned (OpenSpec.ofChange algebraOversWrong)

/-- 'cellularlaw06.AlgebraTurns': WHATEVER THE INPUT: true; the input reads as it did. -/
def algebraTurnsSpec : ChangeSpec := { name := "algebraTurns", fn := fun _ => fun
  | [d1, d2] => { results := [.lit (.bool true)], args := [d1, d2] }
  | _ => none }
def algebraTurnsRow : OpenClaim := { program := "ytenckggfgbkfnaadoor", sum := "f8449bbe8970dabcf01543495551e7aa6ba029ea8944aa1646b12258d29cffa8", func := "cellular/cellularlaw06.AlgebraTurns", spec := "algebraTurns", unfollowed := true, recurses := true, named := ["cellular/symmetry.matrices"], plainKeys := false, apart := false, laid := [("cellular/symmetry.matrices", laid_cellular_symmetry_matrices)] }
def AlgebraTurnsSaid : Prop := algebraTurnsRow.holds Tryd.pinned (OpenSpec.ofChange algebraTurnsSpec)

/-- ITS FALSE NEIGHBOUR: 'it returns false'. Refute it at one input. -/
def algebraTurnsWrong : ChangeSpec := { name := "algebraTurns", fn := fun _ => fun
  | [d1, d2] => { results := [.lit (.bool false)], args := [d1, d2] }
  | _ => none }
def AlgebraTurnsWrongFalsely : Prop := algebraTurnsRow.holds Tryd.pinned (OpenSpec.ofChange algebraTurnsWrong)

/-- 'cellularlaw06.AlgebraTiles': WHATEVER THE INPUT: true; the input reads as it did. -/
def algebraTilesSpec : ChangeSpec := { name := "algebraTiles", fn := fun _ => fun
  | [d1, d2] => { results := [.lit (.bool true)], args := [d1, d2] }
  | _ => none }
def algebraTilesRow : OpenClaim := { program := "ytenckggfgbkfnaadoor", sum := "f8449bbe8970dabcf01543495551e7aa6ba029ea8944aa1646b12258d29cffa8", func := "cellular/cellularlaw06.AlgebraTiles", spec := "algebraTiles", unfollowed := true, recurses := true, named := ["cellular/symmetry.matrices"], plainKeys := false, apart := false, laid := [("cellular/symmetry.matrices", laid_cellular_symmetry_matrices)] }
def AlgebraTilesSaid : Prop := algebraTilesRow.holds Tryd.pinned (OpenSpec.ofChange algebraTilesSpec)

/-- ITS FALSE NEIGHBOUR: 'it returns false'. Refute it at one input. -/
def algebraTilesWrong : ChangeSpec := { name := "algebraTiles", fn := fun _ => fun
  | [d1, d2] => { results := [.lit (.bool false)], args := [d1, d2] }
  | _ => none }
def AlgebraTilesWrongFalsely : Prop := algebraTilesRow.holds Tryd.pinned (OpenSpec.ofChange algebraTilesWrong)

/-- 'cellularlaw06.AlgebraParts': WHATEVER THE INPUT: true; the input reads as it did. -/
def algebraPartsSpec : ChangeSpec := { name := "algebraParts", fn := fun _ => fun
  | [d1, d2] => { results := [.lit (.bool true)], args := [d1, d2] }
  | _ => none }
def algebraPartsRow : OpenClaim := { program := "ytenckggfgbkfnaadoor", sum := "f8449bbe8970dabcf01543495551e7aa6ba029ea8944aa1646b12258d29cffa8", func := "cellular/cellularlaw06.AlgebraParts", spec := "algebraParts", unfollowed := true, recurses := true, named := ["cellular/symmetry.matrices"], plainKeys := false, apart := false, laid := [("cellular/symmetry.matrices", laid_cellular_symmetry_matrices)] }
def AlgebraPartsSaid : Prop := algebraPartsRow.holds Tryd.pinned (OpenSpec.ofChange algebraPartsSpec)

/-- ITS FALSE NEIGHBOUR: 'it returns false'. Refute it at one input. -/
def algebraPartsWrong : ChangeSpec := { name := "algebraParts", fn := fun _ => fun
  | [d1, d2] => { results := [.lit (.bool false)], args := [d1, d2] }
  | _ => none }
def AlgebraPartsWrongFalsely : Prop := algebraPartsRow.holds Tryd.pinned (OpenSpec.ofChange algebraPartsWrong)

/-- 'cellularlaw06.AlgebraCells': WHATEVER THE INPUT: true; the input reads as it did. -/
def algebraCellsSpec : ChangeSpec := { name := "algebraCells", fn := fun _ => fun
  | [d1, d2, d3] => { results := [.lit (.bool true)], args := [d1, d2, d3] }
  | _ => none }
def algebraCellsRow : OpenClaim := { program := "ytenckggfgbkfnaadoor", sum := "f8449bbe8970dabcf01543495551e7aa6ba029ea8944aa1646b12258d29cffa8", func := "cellular/cellularlaw06.AlgebraCells", spec := "algebraCells", unfollowed := true, recurses := true, named := ["cellular/symmetry.matrices"], plainKeys := false, apart := false, laid := [("cellular/symmetry.matrices", laid_cellular_symmetry_matrices)] }
def AlgebraCellsSaid : Prop := algebraCellsRow.holds Tryd.pinned (OpenSpec.ofChange algebraCellsSpec)

/-- ITS FALSE NEIGHBOUR: 'it returns false'. Refute it at one input. -/
def algebraCellsWrong : ChangeSpec := { name := "algebraCells", fn := fun _ => fun
  | [d1, d2, d3] => { results := [.lit (.bool false)], args := [d1, d2, d3] }
  | _ => none }
def AlgebraCellsWrongFalsely : Prop := algebraCellsRow.holds Tryd.pinned (OpenSpec.ofChange algebraCellsWrong)

/-- 'cellularlaw06.AlgebraSets': WHATEVER THE INPUT: true; the input reads as it did. -/
def algebraSetsSpec : ChangeSpec := { name := "algebraSets", fn := fun _ => fun
  | [d1, d2, d3] => { results := [.lit (.bool true)], args := [d1, d2, d3] }
  | _ => none }
def algebraSetsRow : OpenClaim := { program := "ytenckggfgbkfnaadoor", sum := "f8449bbe8970dabcf01543495551e7aa6ba029ea8944aa1646b12258d29cffa8", func := "cellular/cellularlaw06.AlgebraSets", spec := "algebraSets", unfollowed := true, recurses := true, named := ["cellular/symmetry.matrices"], plainKeys := false, apart := false, laid := [("cellular/symmetry.matrices", laid_cellular_symmetry_matrices)] }
def AlgebraSetsSaid : Prop := algebraSetsRow.holds Tryd.pinned (OpenSpec.ofChange algebraSetsSpec)

/-- ITS FALSE NEIGHBOUR: 'it returns false'. Refute it at one input. -/
def algebraSetsWrong : ChangeSpec := { name := "algebraSets", fn := fun _ => fun
  | [d1, d2, d3] => { results := [.lit (.bool false)], args := [d1, d2, d3] }
  | _ => none }
def AlgebraSetsWrongFalsely : Prop := algebraSetsRow.holds Tryd.pinned (OpenSpec.ofChange algebraSetsWrong)

/-- 'cellularlaw06.AlgebraGroup': WHATEVER THE INPUT: true; the input reads as it did. -/
def algebraGroupSpec : ChangeSpec := { name := "algebraGroup", fn := fun _ => fun
  | [d1, d2, d3] => { results := [.lit (.bool true)], args := [d1, d2, d3] }
  | _ => none }
def algebraGroupRow : OpenClaim := { program := "ytenckggfgbkfnaadoor", sum := "f8449bbe8970dabcf01543495551e7aa6ba029ea8944aa1646b12258d29cffa8", func := "cellular/cellularlaw06.AlgebraGroup", spec := "algebraGroup", unfollowed := true, recurses := true, named := ["cellular/symmetry.matrices"], plainKeys := false, apart := false, laid := [("cellular/symmetry.matrices", laid_cellular_symmetry_matrices)] }
def AlgebraGroupSaid : Prop := algebraGroupRow.holds Tryd.pinned (OpenSpec.ofChange algebraGroupSpec)

/-- ITS FALSE NEIGHBOUR: 'it returns false'. Refute it at one input. -/
def algebraGroupWrong : ChangeSpec := { name := "algebraGroup", fn := fun _ => fun
  | [d1, d2, d3] => { results := [.lit (.bool false)], args := [d1, d2, d3] }
  | _ => none }
def AlgebraGroupWrongFalsely : Prop := algebraGroupRow.holds Tryd.pinned (OpenSpec.ofChange algebraGroupWrong)

/- THE SECOND FORM. 'bulk': how many values and letters a reading holds, each counted each time it is reached (what is shared counts as often as it is met; a slice's spare places count too). A statement '..UptoSaid' is the law's where the arguments, and the package variables that the reading takes, are together of bulk at most 1048576: NARROWER than '..Said'. Prove '..Said' where nothing that the law and all that it calls make is longer than what came in: it says more and counts as full. Else prove '..UptoSaid'. A law counts once. -/
mutual
def uptoBulk {H : Type} : DataW H → Nat
  | .lit (.string bytes) => bytes.length + 1
  | .lit _ => 1
  | .nil => 1
  | .ptr d => uptoBulk d + 1
  | .slice elems spare => uptoBulkAll elems + uptoBulkAll spare + 1
  | .agg parts => uptoBulkAll parts + 1
  | .iface _ d => uptoBulk d + 1
  | .map entries => uptoBulkEntries entries + 1
  | .held _ => 1
def uptoBulkAll {H : Type} : List (DataW H) → Nat
  | [] => 0
  | d :: r => uptoBulk d + uptoBulkAll r
def uptoBulkEntries {H : Type} : List (Lit × DataW H) → Nat
  | [] => 0
  | x :: r => uptoBulkEntry x + uptoBulkEntries r
def uptoBulkEntry {H : Type} : Lit × DataW H → Nat
  | (.string bytes, d) => bytes.length + uptoBulk d + 1
  | (_, d) => uptoBulk d + 1
 end
def uptoSmall : (H : Type) → List (DataW H) → Bool := fun _ ds => decide (uptoBulkAll ds ≤ 1048576)
def OpenSpec.upto (s : _root_.Go.ChangeSpec) : _root_.Go.OpenSpec := { _root_.Go.OpenSpec.ofChange s with cond := some uptoSmall }

/-- 'cellularlaw06.AlgebraOvers', WHERE WHAT IT READS IS OF BULK AT MOST 1048576: true; the input reads as it did. -/
def algebraOversUptoRow : OpenClaim := { program := "ytenckggfgbkfnaadoor", sum := "f8449bbe8970dabcf01543495551e7aa6ba029ea8944aa1646b12258d29cffa8", func := "cellular/cellularlaw06.AlgebraOvers", spec := "algebraOvers", unfollowed := true, recurses := true, named := ["cellular/symmetry.matrices"], plainKeys := false, apart := false, laid := [("cellular/symmetry.matrices", laid_cellular_symmetry_matrices)], narrowed := true }
def AlgebraOversUptoSaid : Prop := algebraOversUptoRow.holds Tryd.pinned (OpenSpec.upto algebraOversSpec)

/-- 'cellularlaw06.AlgebraTurns', WHERE WHAT IT READS IS OF BULK AT MOST 1048576: true; the input reads as it did. -/
def algebraTurnsUptoRow : OpenClaim := { program := "ytenckggfgbkfnaadoor", sum := "f8449bbe8970dabcf01543495551e7aa6ba029ea8944aa1646b12258d29cffa8", func := "cellular/cellularlaw06.AlgebraTurns", spec := "algebraTurns", unfollowed := true, recurses := true, named := ["cellular/symmetry.matrices"], plainKeys := false, apart := false, laid := [("cellular/symmetry.matrices", laid_cellular_symmetry_matrices)], narrowed := true }
def AlgebraTurnsUptoSaid : Prop := algebraTurnsUptoRow.holds Tryd.pinned (OpenSpec.upto algebraTurnsSpec)

/-- 'cellularlaw06.AlgebraTiles', WHERE WHAT IT READS IS OF BULK AT MOST 1048576: true; the input reads as it did. -/
def algebraTilesUptoRow : OpenClaim := { program := "ytenckggfgbkfnaadoor", sum := "f8449bbe8970dabcf01543495551e7aa6ba029ea8944aa1646b12258d29cffa8", func := "cellular/cellularlaw06.AlgebraTiles", spec := "algebraTiles", unfollowed := true, recurses := true, named := ["cellular/symmetry.matrices"], plainKeys := false, apart := false, laid := [("cellular/symmetry.matrices", laid_cellular_symmetry_matrices)], narrowed := true }
def AlgebraTilesUptoSaid : Prop := algebraTilesUptoRow.holds Tryd.pinned (OpenSpec.upto algebraTilesSpec)

/-- 'cellularlaw06.AlgebraParts', WHERE WHAT IT READS IS OF BULK AT MOST 1048576: true; the input reads as it did. -/
def algebraPartsUptoRow : OpenClaim := { program := "ytenckggfgbkfnaadoor", sum := "f8449bbe8970dabcf01543495551e7aa6ba029ea8944aa1646b12258d29cffa8", func := "cellular/cellularlaw06.AlgebraParts", spec := "algebraParts", unfollowed := true, recurses := true, named := ["cellular/symmetry.matrices"], plainKeys := false, apart := false, laid := [("cellular/symmetry.matrices", laid_cellular_symmetry_matrices)], narrowed := true }
def AlgebraPartsUptoSaid : Prop := algebraPartsUptoRow.holds Tryd.pinned (OpenSpec.upto algebraPartsSpec)

/-- 'cellularlaw06.AlgebraCells', WHERE WHAT IT READS IS OF BULK AT MOST 1048576: true; the input reads as it did. -/
def algebraCellsUptoRow : OpenClaim := { program := "ytenckggfgbkfnaadoor", sum := "f8449bbe8970dabcf01543495551e7aa6ba029ea8944aa1646b12258d29cffa8", func := "cellular/cellularlaw06.AlgebraCells", spec := "algebraCells", unfollowed := true, recurses := true, named := ["cellular/symmetry.matrices"], plainKeys := false, apart := false, laid := [("cellular/symmetry.matrices", laid_cellular_symmetry_matrices)], narrowed := true }
def AlgebraCellsUptoSaid : Prop := algebraCellsUptoRow.holds Tryd.pinned (OpenSpec.upto algebraCellsSpec)

/-- 'cellularlaw06.AlgebraSets', WHERE WHAT IT READS IS OF BULK AT MOST 1048576: true; the input reads as it did. -/
def algebraSetsUptoRow : OpenClaim := { program := "ytenckggfgbkfnaadoor", sum := "f8449bbe8970dabcf01543495551e7aa6ba029ea8944aa1646b12258d29cffa8", func := "cellular/cellularlaw06.AlgebraSets", spec := "algebraSets", unfollowed := true, recurses := true, named := ["cellular/symmetry.matrices"], plainKeys := false, apart := false, laid := [("cellular/symmetry.matrices", laid_cellular_symmetry_matrices)], narrowed := true }
def AlgebraSetsUptoSaid : Prop := algebraSetsUptoRow.holds Tryd.pinned (OpenSpec.upto algebraSetsSpec)

/-- 'cellularlaw06.AlgebraGroup', WHERE WHAT IT READS IS OF BULK AT MOST 1048576: true; the input reads as it did. -/
def algebraGroupUptoRow : OpenClaim := { program := "ytenckggfgbkfnaadoor", sum := "f8449bbe8970dabcf01543495551e7aa6ba029ea8944aa1646b12258d29cffa8", func := "cellular/cellularlaw06.AlgebraGroup", spec := "algebraGroup", unfollowed := true, recurses := true, named := ["cellular/symmetry.matrices"], plainKeys := false, apart := false, laid := [("cellular/symmetry.matrices", laid_cellular_symmetry_matrices)], narrowed := true }
def AlgebraGroupUptoSaid : Prop := algebraGroupUptoRow.holds Tryd.pinned (OpenSpec.upto algebraGroupSpec)

end Rows
end Go.Proofs.YtenckggfgbkfnaaDoor
