/-
  NARROWER THAN 'FOR EVERY INPUT', by the rows' own cells (each row's printed sentence says how): ProblemChecks: laid · ProblemSolves: laid · ProblemMotion: laid · ProblemOrbits: laid.
  DERIVED. THE GIVEN ROWS OF THIS SEAT. 4 by the template 'for every input the law returns true; each argument reads behind the call as it read before'; 0 by the template 'total and deterministic' (their statements: YtnhapgbjaeaamaaGreatDoorTotals.lean).
  GIVEN WITH THE SEED: the statements are not yours to turn. If you find one false, say at which input.
  Laid BY PROGRAM, IN A SANDBOX (cutbox-rows.mjs): the forced cells as the released guide's own fill.sh prints them over the translation e69c9a9fb13ae594… (all of the seat's roots in one cut). By AI agents, Wed Nov 11 2026. No macro, syntax, notation, axiom, sorry.
-/
import Derived.Test.YtnhapgbjaeaamaaGreatDoorChecked
import GoSem.Claim
import GoSem.ClaimJoined
import GoSem.ClaimMapViews
import Derived.JoinedTies
import Derived.KernelRfl
namespace Go.Proofs.YtnhapgbjaeaamaaGreatDoor
/- THE CELL 'sum', in the pinned program and in every row, IS THE sha256 OF THE DUMP (.gsa) THAT YtnhapgbjaeaamaaGreatDoorProg.lean LOADS. Nothing in Lean hashes anything: it is a label: what it is worth is what the hold of that sum in a sandbox is worth. -/
noncomputable def Tryz.pinned : Pinned := { name := "ytnhapgbjaeaamaagreatdoor", sum := "e69c9a9fb13ae594c1bd41a8377abd9c2d0fab60a0f3bf410233d18c092b640b", checked := Tryz.checked }
namespace Rows
def none {H : Type} : Left H := { results := [], args := [] }

/- WHAT THE LISTED PACKAGE-LEVEL VARIABLES READ AS WHEN THE CALL BEGINS. Each datum BY PROGRAM (the guide's laid-datum.mjs) off the statement by which the dump's own 'gosem.cut.vars' lays the variable. In a bare row this is a premise. The card (YtnhapgbjaeaamaaGreatDoorCards.lean) ties it to the program's text. -/
def laid_cellular_symmetry_matrices {H : Type} : DataW H := .agg [.agg [.lit (.int .i64 1), .lit (.int .i64 0), .lit (.int .i64 0), .lit (.int .i64 1)], .agg [.lit (.int .i64 0), .lit (.int .i64 (-1)), .lit (.int .i64 1), .lit (.int .i64 0)], .agg [.lit (.int .i64 (-1)), .lit (.int .i64 0), .lit (.int .i64 0), .lit (.int .i64 (-1))], .agg [.lit (.int .i64 0), .lit (.int .i64 1), .lit (.int .i64 (-1)), .lit (.int .i64 0)], .agg [.lit (.int .i64 (-1)), .lit (.int .i64 0), .lit (.int .i64 0), .lit (.int .i64 1)], .agg [.lit (.int .i64 0), .lit (.int .i64 (-1)), .lit (.int .i64 (-1)), .lit (.int .i64 0)], .agg [.lit (.int .i64 1), .lit (.int .i64 0), .lit (.int .i64 0), .lit (.int .i64 (-1))], .agg [.lit (.int .i64 0), .lit (.int .i64 1), .lit (.int .i64 1), .lit (.int .i64 0)]]

/-- 'cellularlaw44.ProblemChecks': WHATEVER THE INPUT: true; the input reads as it did. -/
def problemChecksSpec : ChangeSpec := { name := "problemChecks", fn := fun _ => fun
  | [d1, d2, d3] => { results := [.lit (.bool true)], args := [d1, d2, d3] }
  | _ => none }
def problemChecksRow : OpenClaim := { program := "ytnhapgbjaeaamaagreatdoor", sum := "e69c9a9fb13ae594c1bd41a8377abd9c2d0fab60a0f3bf410233d18c092b640b", func := "cellular/cellularlaw44.ProblemChecks", spec := "problemChecks", unfollowed := true, recurses := true, named := ["cellular/symmetry.matrices"], plainKeys := false, apart := false, laid := [("cellular/symmetry.matrices", laid_cellular_symmetry_matrices)] }
def ProblemChecksSaid : Prop := problemChecksRow.holds Tryz.pinned (OpenSpec.ofChange problemChecksSpec)

/-- ITS FALSE NEIGHBOUR: 'it returns false'. Refute it at one input. -/
def problemChecksWrong : ChangeSpec := { name := "problemChecks", fn := fun _ => fun
  | [d1, d2, d3] => { results := [.lit (.bool false)], args := [d1, d2, d3] }
  | _ => none }
def ProblemChecksWrongFalsely : Prop := problemChecksRow.holds Tryz.pinned (OpenSpec.ofChange problemChecksWrong)

/-- 'cellularlaw44.ProblemSolves': WHATEVER THE INPUT: true; the input reads as it did. -/
def problemSolvesSpec : ChangeSpec := { name := "problemSolves", fn := fun _ => fun
  | [d1, d2, d3] => { results := [.lit (.bool true)], args := [d1, d2, d3] }
  | _ => none }
def problemSolvesRow : OpenClaim := { program := "ytnhapgbjaeaamaagreatdoor", sum := "e69c9a9fb13ae594c1bd41a8377abd9c2d0fab60a0f3bf410233d18c092b640b", func := "cellular/cellularlaw44.ProblemSolves", spec := "problemSolves", unfollowed := true, recurses := true, named := ["cellular/symmetry.matrices"], plainKeys := false, apart := false, laid := [("cellular/symmetry.matrices", laid_cellular_symmetry_matrices)] }
def ProblemSolvesSaid : Prop := problemSolvesRow.holds Tryz.pinned (OpenSpec.ofChange problemSolvesSpec)

/-- ITS FALSE NEIGHBOUR: 'it returns false'. Refute it at one input. -/
def problemSolvesWrong : ChangeSpec := { name := "problemSolves", fn := fun _ => fun
  | [d1, d2, d3] => { results := [.lit (.bool false)], args := [d1, d2, d3] }
  | _ => none }
def ProblemSolvesWrongFalsely : Prop := problemSolvesRow.holds Tryz.pinned (OpenSpec.ofChange problemSolvesWrong)

/-- 'cellularlaw44.ProblemMotion': WHATEVER THE INPUT: true; the input reads as it did. -/
def problemMotionSpec : ChangeSpec := { name := "problemMotion", fn := fun _ => fun
  | [d1, d2, d3] => { results := [.lit (.bool true)], args := [d1, d2, d3] }
  | _ => none }
def problemMotionRow : OpenClaim := { program := "ytnhapgbjaeaamaagreatdoor", sum := "e69c9a9fb13ae594c1bd41a8377abd9c2d0fab60a0f3bf410233d18c092b640b", func := "cellular/cellularlaw44.ProblemMotion", spec := "problemMotion", unfollowed := true, recurses := true, named := ["cellular/symmetry.matrices"], plainKeys := false, apart := false, laid := [("cellular/symmetry.matrices", laid_cellular_symmetry_matrices)] }
def ProblemMotionSaid : Prop := problemMotionRow.holds Tryz.pinned (OpenSpec.ofChange problemMotionSpec)

/-- ITS FALSE NEIGHBOUR: 'it returns false'. Refute it at one input. -/
def problemMotionWrong : ChangeSpec := { name := "problemMotion", fn := fun _ => fun
  | [d1, d2, d3] => { results := [.lit (.bool false)], args := [d1, d2, d3] }
  | _ => none }
def ProblemMotionWrongFalsely : Prop := problemMotionRow.holds Tryz.pinned (OpenSpec.ofChange problemMotionWrong)

/-- 'cellularlaw44.ProblemOrbits': WHATEVER THE INPUT: true; the input reads as it did. -/
def problemOrbitsSpec : ChangeSpec := { name := "problemOrbits", fn := fun _ => fun
  | [d1, d2, d3] => { results := [.lit (.bool true)], args := [d1, d2, d3] }
  | _ => none }
def problemOrbitsRow : OpenClaim := { program := "ytnhapgbjaeaamaagreatdoor", sum := "e69c9a9fb13ae594c1bd41a8377abd9c2d0fab60a0f3bf410233d18c092b640b", func := "cellular/cellularlaw44.ProblemOrbits", spec := "problemOrbits", unfollowed := true, recurses := true, named := ["cellular/symmetry.matrices"], plainKeys := false, apart := false, laid := [("cellular/symmetry.matrices", laid_cellular_symmetry_matrices)] }
def ProblemOrbitsSaid : Prop := problemOrbitsRow.holds Tryz.pinned (OpenSpec.ofChange problemOrbitsSpec)

/-- ITS FALSE NEIGHBOUR: 'it returns false'. Refute it at one input. -/
def problemOrbitsWrong : ChangeSpec := { name := "problemOrbits", fn := fun _ => fun
  | [d1, d2, d3] => { results := [.lit (.bool false)], args := [d1, d2, d3] }
  | _ => none }
def ProblemOrbitsWrongFalsely : Prop := problemOrbitsRow.holds Tryz.pinned (OpenSpec.ofChange problemOrbitsWrong)

/- THE SECOND FORM. 'bulk': how many values and letters a reading holds, each counted each time it is reached (what is shared counts as often as it is met; a slice's spare places count too). A statement '..UptoSaid' is the law's where the arguments, and the package variables that the reading takes, are together of bulk at most 1048576: NARROWER than '..Said'. Prove '..Said' where nothing that the law and all that it calls make is longer than what came in: it says more and counts as full. Else prove '..UptoSaid'. A law counts once. -/
mutual
def uptoBulk {H : Type} : DataW H → Nat
  | .lit (.string bytes) => bytes.length + 1
  | .lit _ => 1
  | .nil => 1
  | .ptr d => uptoBulk d + 1
  | .slice elems spare => uptoBulkAll elems + uptoBulkAll spare + 1
  | .agg parts => uptoBulkAll parts + 1
  | .iface _ d => uptoBulk d + 1
  | .map entries => uptoBulkEntries entries + 1
  | .held _ => 1
def uptoBulkAll {H : Type} : List (DataW H) → Nat
  | [] => 0
  | d :: r => uptoBulk d + uptoBulkAll r
def uptoBulkEntries {H : Type} : List (Lit × DataW H) → Nat
  | [] => 0
  | x :: r => uptoBulkEntry x + uptoBulkEntries r
def uptoBulkEntry {H : Type} : Lit × DataW H → Nat
  | (.string bytes, d) => bytes.length + uptoBulk d + 1
  | (_, d) => uptoBulk d + 1
 end
def uptoSmall : (H : Type) → List (DataW H) → Bool := fun _ ds => decide (uptoBulkAll ds ≤ 1048576)
def OpenSpec.upto (s : _root_.Go.ChangeSpec) : _root_.Go.OpenSpec := { _root_.Go.OpenSpec.ofChange s with cond := some uptoSmall }

/-- 'cellularlaw44.ProblemChecks', WHERE WHAT IT READS IS OF BULK AT MOST 1048576: true; the input reads as it did. -/
def problemChecksUptoRow : OpenClaim := { program := "ytnhapgbjaeaamaagreatdoor", sum := "e69c9a9fb13ae594c1bd41a8377abd9c2d0fab60a0f3bf410233d18c092b640b", func := "cellular/cellularlaw44.ProblemChecks", spec := "problemChecks", unfollowed := true, recurses := true, named := ["cellular/symmetry.matrices"], plainKeys := false, apart := false, laid := [("cellular/symmetry.matrices", laid_cellular_symmetry_matrices)], narrowed := true }
def ProblemChecksUptoSaid : Prop := problemChecksUptoRow.holds Tryz.pinned (OpenSpec.upto problemChecksSpec)

/-- 'cellularlaw44.ProblemSolves', WHERE WHAT IT READS IS OF BULK AT MOST 1048576: true; the input reads as it did. -/
def problemSolvesUptoRow : OpenClaim := { program := "ytnhapgbjaeaamaagreatdoor", sum := "e69c9a9fb13ae594c1bd41a8377abd9c2d0fab60a0f3bf410233d18c092b640b", func := "cellular/cellularlaw44.ProblemSolves", spec := "problemSolves", unfollowed := true, recurses := true, named := ["cellular/symmetry.matrices"], plainKeys := false, apart := false, laid := [("cellular/symmetry.matrices", laid_cellular_symmetry_matrices)], narrowed := true }
def ProblemSolvesUptoSaid : Prop := problemSolvesUptoRow.holds Tryz.pinned (OpenSpec.upto problemSolvesSpec)

/-- 'cellularlaw44.ProblemMotion', WHERE WHAT IT READS IS OF BULK AT MOST 1048576: true; the input reads as it did. -/
def problemMotionUptoRow : OpenClaim := { program := "ytnhapgbjaeaamaagreatdoor", sum := "e69c9a9fb13ae594c1bd41a8377abd9c2d0fab60a0f3bf410233d18c092b640b", func := "cellular/cellularlaw44.ProblemMotion", spec := "problemMotion", unfollowed := true, recurses := true, named := ["cellular/symmetry.matrices"], plainKeys := false, apart := false, laid := [("cellular/symmetry.matrices", laid_cellular_symmetry_matrices)], narrowed := true }
def ProblemMotionUptoSaid : Prop := problemMotionUptoRow.holds Tryz.pinned (OpenSpec.upto problemMotionSpec)

/-- 'cellularlaw44.ProblemOrbits', WHERE WHAT IT READS IS OF BULK AT MOST 1048576: true; the input reads as it did. -/
def problemOrbitsUptoRow : OpenClaim := { program := "ytnhapgbjaeaamaagreatdoor", sum := "e69c9a9fb13ae594c1bd41a8377abd9c2d0fab60a0f3bf410233d18c092b640b", func := "cellular/cellularlaw44.ProblemOrbits", spec := "problemOrbits", unfollowed := true, recurses := true, named := ["cellular/symmetry.matrices"], plainKeys := false, apart := false, laid := [("cellular/symmetry.matrices", laid_cellular_symmetry_matrices)], narrowed := true }
def ProblemOrbitsUptoSaid : Prop := problemOrbitsUptoRow.holds Tryz.pinned (OpenSpec.upto problemOrbitsSpec)

end Rows
end Go.Proofs.YtnhapgbjaeaamaaGreatDoor
