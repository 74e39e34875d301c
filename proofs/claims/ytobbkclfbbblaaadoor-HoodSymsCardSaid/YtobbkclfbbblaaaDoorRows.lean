/-
  NARROWER THAN 'FOR EVERY INPUT', by the rows' own cells (each row's printed sentence says how): SymmetryApplies: laid · SymmetryComposes: laid · SymmetryTurns: laid · SymmetryGroups: laid · SymmetryOrbits: laid · HoodUsual: laid · HoodRight: laid · HoodSame: laid · HoodSyms: laid.
  DERIVED. THE GIVEN ROWS OF THIS SEAT. 9 by the template 'for every input the law returns true; each argument reads behind the call as it read before'; 0 by the template 'total and deterministic' (their statements: YtobbkclfbbblaaaDoorTotals.lean).
  GIVEN WITH THE SEED: the statements are not yours to turn. If you find one false, say at which input.
  Laid BY PROGRAM, IN A SANDBOX (cutbox-rows.mjs): the forced cells as the released guide's own fill.sh prints them over the translation b22dad37d0105e86… (all of the seat's roots in one cut). By AI agents, Wed Nov 11 2026. No macro, syntax, notation, axiom, sorry.
-/
import Derived.Test.YtobbkclfbbblaaaDoorChecked
import GoSem.Claim
import GoSem.ClaimJoined
import GoSem.ClaimMapViews
import Derived.JoinedTies
import Derived.KernelRfl
namespace Go.Proofs.YtobbkclfbbblaaaDoor
/- THE CELL 'sum', in the pinned program and in every row, IS THE sha256 OF THE DUMP (.gsa) THAT YtobbkclfbbblaaaDoorProg.lean LOADS. Nothing in Lean hashes anything: it is a label: what it is worth is what the hold of that sum in a sandbox is worth. -/
noncomputable def Tryd.pinned : Pinned := { name := "ytobbkclfbbblaaadoor", sum := "b22dad37d0105e86616855977f668887b7a3f1532545379dfaceab7e81406c1d", checked := Tryd.checked }
namespace Rows
def none {H : Type} : Left H := { results := [], args := [] }

/- WHAT THE LISTED PACKAGE-LEVEL VARIABLES READ AS WHEN THE CALL BEGINS. Each datum BY PROGRAM (the guide's laid-datum.mjs) off the statement by which the dump's own 'gosem.cut.vars' lays the variable. In a bare row this is a premise. The card (YtobbkclfbbblaaaDoorCards.lean) ties it to the program's text. -/
def laid_cellular_symmetry_matrices {H : Type} : DataW H := .agg [.agg [.lit (.int .i64 1), .lit (.int .i64 0), .lit (.int .i64 0), .lit (.int .i64 1)], .agg [.lit (.int .i64 0), .lit (.int .i64 (-1)), .lit (.int .i64 1), .lit (.int .i64 0)], .agg [.lit (.int .i64 (-1)), .lit (.int .i64 0), .lit (.int .i64 0), .lit (.int .i64 (-1))], .agg [.lit (.int .i64 0), .lit (.int .i64 1), .lit (.int .i64 (-1)), .lit (.int .i64 0)], .agg [.lit (.int .i64 (-1)), .lit (.int .i64 0), .lit (.int .i64 0), .lit (.int .i64 1)], .agg [.lit (.int .i64 0), .lit (.int .i64 (-1)), .lit (.int .i64 (-1)), .lit (.int .i64 0)], .agg [.lit (.int .i64 1), .lit (.int .i64 0), .lit (.int .i64 0), .lit (.int .i64 (-1))], .agg [.lit (.int .i64 0), .lit (.int .i64 1), .lit (.int .i64 1), .lit (.int .i64 0)]]

/-- 'cellularlaw04.SymmetryApplies': WHATEVER THE INPUT: true; the input reads as it did. -/
def symmetryAppliesSpec : ChangeSpec := { name := "symmetryApplies", fn := fun _ => fun
  | [d1, d2] => { results := [.lit (.bool true)], args := [d1, d2] }
  | _ => none }
def symmetryAppliesRow : OpenClaim := { program := "ytobbkclfbbblaaadoor", sum := "b22dad37d0105e86616855977f668887b7a3f1532545379dfaceab7e81406c1d", func := "cellular/cellularlaw04.SymmetryApplies", spec := "symmetryApplies", unfollowed := true, recurses := true, named := ["cellular/symmetry.matrices"], apart := false, laid := [("cellular/symmetry.matrices", laid_cellular_symmetry_matrices)] }
def SymmetryAppliesSaid : Prop := symmetryAppliesRow.holds Tryd.pinned (OpenSpec.ofChange symmetryAppliesSpec)

/-- ITS FALSE NEIGHBOUR: 'it returns false'. Refute it at one input. -/
def symmetryAppliesWrong : ChangeSpec := { name := "symmetryApplies", fn := fun _ => fun
  | [d1, d2] => { results := [.lit (.bool false)], args := [d1, d2] }
  | _ => none }
def SymmetryAppliesWrongFalsely : Prop := symmetryAppliesRow.holds Tryd.pinned (OpenSpec.ofChange symmetryAppliesWrong)

/-- 'cellularlaw04.SymmetryComposes': WHATEVER THE INPUT: true; the input reads as it did. -/
def symmetryComposesSpec : ChangeSpec := { name := "symmetryComposes", fn := fun _ => fun
  | [d1, d2, d3] => { results := [.lit (.bool true)], args := [d1, d2, d3] }
  | _ => none }
def symmetryComposesRow : OpenClaim := { program := "ytobbkclfbbblaaadoor", sum := "b22dad37d0105e86616855977f668887b7a3f1532545379dfaceab7e81406c1d", func := "cellular/cellularlaw04.SymmetryComposes", spec := "symmetryComposes", unfollowed := true, recurses := true, named := ["cellular/symmetry.matrices"], apart := false, laid := [("cellular/symmetry.matrices", laid_cellular_symmetry_matrices)] }
def SymmetryComposesSaid : Prop := symmetryComposesRow.holds Tryd.pinned (OpenSpec.ofChange symmetryComposesSpec)

/-- ITS FALSE NEIGHBOUR: 'it returns false'. Refute it at one input. -/
def symmetryComposesWrong : ChangeSpec := { name := "symmetryComposes", fn := fun _ => fun
  | [d1, d2, d3] => { results := [.lit (.bool false)], args := [d1, d2, d3] }
  | _ => none }
def SymmetryComposesWrongFalsely : Prop := symmetryComposesRow.holds Tryd.pinned (OpenSpec.ofChange symmetryComposesWrong)

/-- 'cellularlaw04.SymmetryTurns': WHATEVER THE INPUT: true; the input reads as it did. -/
def symmetryTurnsSpec : ChangeSpec := { name := "symmetryTurns", fn := fun _ => fun
  | [d1, d2, d3] => { results := [.lit (.bool true)], args := [d1, d2, d3] }
  | _ => none }
def symmetryTurnsRow : OpenClaim := { program := "ytobbkclfbbblaaadoor", sum := "b22dad37d0105e86616855977f668887b7a3f1532545379dfaceab7e81406c1d", func := "cellular/cellularlaw04.SymmetryTurns", spec := "symmetryTurns", unfollowed := true, recurses := true, named := ["cellular/symmetry.matrices"], apart := false, laid := [("cellular/symmetry.matrices", laid_cellular_symmetry_matrices)] }
def SymmetryTurnsSaid : Prop := symmetryTurnsRow.holds Tryd.pinned (OpenSpec.ofChange symmetryTurnsSpec)

/-- ITS FALSE NEIGHBOUR: 'it returns false'. Refute it at one input. -/
def symmetryTurnsWrong : ChangeSpec := { name := "symmetryTurns", fn := fun _ => fun
  | [d1, d2, d3] => { results := [.lit (.bool false)], args := [d1, d2, d3] }
  | _ => none }
def SymmetryTurnsWrongFalsely : Prop := symmetryTurnsRow.holds Tryd.pinned (OpenSpec.ofChange symmetryTurnsWrong)

/-- 'cellularlaw04.SymmetryGroups': WHATEVER THE INPUT: true; the input reads as it did. -/
def symmetryGroupsSpec : ChangeSpec := { name := "symmetryGroups", fn := fun _ => fun
  | [d] => { results := [.lit (.bool true)], args := [d] }
  | _ => none }
def symmetryGroupsRow : OpenClaim := { program := "ytobbkclfbbblaaadoor", sum := "b22dad37d0105e86616855977f668887b7a3f1532545379dfaceab7e81406c1d", func := "cellular/cellularlaw04.SymmetryGroups", spec := "symmetryGroups", unfollowed := true, recurses := true, named := ["cellular/symmetry.matrices"], apart := false, laid := [("cellular/symmetry.matrices", laid_cellular_symmetry_matrices)] }
def SymmetryGroupsSaid : Prop := symmetryGroupsRow.holds Tryd.pinned (OpenSpec.ofChange symmetryGroupsSpec)

/-- ITS FALSE NEIGHBOUR: 'it returns false'. Refute it at one input. -/
def symmetryGroupsWrong : ChangeSpec := { name := "symmetryGroups", fn := fun _ => fun
  | [d] => { results := [.lit (.bool false)], args := [d] }
  | _ => none }
def SymmetryGroupsWrongFalsely : Prop := symmetryGroupsRow.holds Tryd.pinned (OpenSpec.ofChange symmetryGroupsWrong)

/-- 'cellularlaw04.SymmetryOrbits': WHATEVER THE INPUT: true; the input reads as it did. -/
def symmetryOrbitsSpec : ChangeSpec := { name := "symmetryOrbits", fn := fun _ => fun
  | [d1, d2, d3] => { results := [.lit (.bool true)], args := [d1, d2, d3] }
  | _ => none }
def symmetryOrbitsRow : OpenClaim := { program := "ytobbkclfbbblaaadoor", sum := "b22dad37d0105e86616855977f668887b7a3f1532545379dfaceab7e81406c1d", func := "cellular/cellularlaw04.SymmetryOrbits", spec := "symmetryOrbits", unfollowed := true, recurses := true, named := ["cellular/symmetry.matrices"], apart := false, laid := [("cellular/symmetry.matrices", laid_cellular_symmetry_matrices)] }
def SymmetryOrbitsSaid : Prop := symmetryOrbitsRow.holds Tryd.pinned (OpenSpec.ofChange symmetryOrbitsSpec)

/-- ITS FALSE NEIGHBOUR: 'it returns false'. Refute it at one input. -/
def symmetryOrbitsWrong : ChangeSpec := { name := "symmetryOrbits", fn := fun _ => fun
  | [d1, d2, d3] => { results := [.lit (.bool false)], args := [d1, d2, d3] }
  | _ => none }
def SymmetryOrbitsWrongFalsely : Prop := symmetryOrbitsRow.holds Tryd.pinned (OpenSpec.ofChange symmetryOrbitsWrong)

/-- 'cellularlaw07.HoodUsual': WHATEVER THE INPUT: true; the input reads as it did. -/
def hoodUsualSpec : ChangeSpec := { name := "hoodUsual", fn := fun _ => fun
  | [d] => { results := [.lit (.bool true)], args := [d] }
  | _ => none }
def hoodUsualRow : OpenClaim := { program := "ytobbkclfbbblaaadoor", sum := "b22dad37d0105e86616855977f668887b7a3f1532545379dfaceab7e81406c1d", func := "cellular/cellularlaw07.HoodUsual", spec := "hoodUsual", unfollowed := true, recurses := true, named := ["cellular/symmetry.matrices"], apart := false, laid := [("cellular/symmetry.matrices", laid_cellular_symmetry_matrices)] }
def HoodUsualSaid : Prop := hoodUsualRow.holds Tryd.pinned (OpenSpec.ofChange hoodUsualSpec)

/-- ITS FALSE NEIGHBOUR: 'it returns false'. Refute it at one input. -/
def hoodUsualWrong : ChangeSpec := { name := "hoodUsual", fn := fun _ => fun
  | [d] => { results := [.lit (.bool false)], args := [d] }
  | _ => none }
def HoodUsualWrongFalsely : Prop := hoodUsualRow.holds Tryd.pinned (OpenSpec.ofChange hoodUsualWrong)

/-- 'cellularlaw07.HoodRight': WHATEVER THE INPUT: true; the input reads as it did. -/
def hoodRightSpec : ChangeSpec := { name := "hoodRight", fn := fun _ => fun
  | [d] => { results := [.lit (.bool true)], args := [d] }
  | _ => none }
def hoodRightRow : OpenClaim := { program := "ytobbkclfbbblaaadoor", sum := "b22dad37d0105e86616855977f668887b7a3f1532545379dfaceab7e81406c1d", func := "cellular/cellularlaw07.HoodRight", spec := "hoodRight", unfollowed := true, recurses := true, named := ["cellular/symmetry.matrices"], apart := false, laid := [("cellular/symmetry.matrices", laid_cellular_symmetry_matrices)] }
def HoodRightSaid : Prop := hoodRightRow.holds Tryd.pinned (OpenSpec.ofChange hoodRightSpec)

/-- ITS FALSE NEIGHBOUR: 'it returns false'. Refute it at one input. -/
def hoodRightWrong : ChangeSpec := { name := "hoodRight", fn := fun _ => fun
  | [d] => { results := [.lit (.bool false)], args := [d] }
  | _ => none }
def HoodRightWrongFalsely : Prop := hoodRightRow.holds Tryd.pinned (OpenSpec.ofChange hoodRightWrong)

/-- 'cellularlaw07.HoodSame': WHATEVER THE INPUT: true; the input reads as it did. -/
def hoodSameSpec : ChangeSpec := { name := "hoodSame", fn := fun _ => fun
  | [d1, d2] => { results := [.lit (.bool true)], args := [d1, d2] }
  | _ => none }
def hoodSameRow : OpenClaim := { program := "ytobbkclfbbblaaadoor", sum := "b22dad37d0105e86616855977f668887b7a3f1532545379dfaceab7e81406c1d", func := "cellular/cellularlaw07.HoodSame", spec := "hoodSame", unfollowed := true, recurses := true, named := ["cellular/symmetry.matrices"], apart := false, laid := [("cellular/symmetry.matrices", laid_cellular_symmetry_matrices)] }
def HoodSameSaid : Prop := hoodSameRow.holds Tryd.pinned (OpenSpec.ofChange hoodSameSpec)

/-- ITS FALSE NEIGHBOUR: 'it returns false'. Refute it at one input. -/
def hoodSameWrong : ChangeSpec := { name := "hoodSame", fn := fun _ => fun
  | [d1, d2] => { results := [.lit (.bool false)], args := [d1, d2] }
  | _ => none }
def HoodSameWrongFalsely : Prop := hoodSameRow.holds Tryd.pinned (OpenSpec.ofChange hoodSameWrong)

/-- 'cellularlaw07.HoodSyms': WHATEVER THE INPUT: true; the input reads as it did. -/
def hoodSymsSpec : ChangeSpec := { name := "hoodSyms", fn := fun _ => fun
  | [d] => { results := [.lit (.bool true)], args := [d] }
  | _ => none }
def hoodSymsRow : OpenClaim := { program := "ytobbkclfbbblaaadoor", sum := "b22dad37d0105e86616855977f668887b7a3f1532545379dfaceab7e81406c1d", func := "cellular/cellularlaw07.HoodSyms", spec := "hoodSyms", unfollowed := true, recurses := true, named := ["cellular/symmetry.matrices"], apart := false, laid := [("cellular/symmetry.matrices", laid_cellular_symmetry_matrices)] }
def HoodSymsSaid : Prop := hoodSymsRow.holds Tryd.pinned (OpenSpec.ofChange hoodSymsSpec)

/-- ITS FALSE NEIGHBOUR: 'it returns false'. Refute it at one input. -/
def hoodSymsWrong : ChangeSpec := { name := "hoodSyms", fn := fun _ => fun
  | [d] => { results := [.lit (.bool false)], args := [d] }
  | _ => none }
def HoodSymsWrongFalsely : Prop := hoodSymsRow.holds Tryd.pinned (OpenSpec.ofChange hoodSymsWrong)

/- THE SECOND FORM. 'bulk': how many values and letters a reading holds, each counted each time it is reached (what is shared counts as often as it is met; a slice's spare places count too). A statement '..UptoSaid' is the law's where the arguments, and the package variables that the reading takes, are together of bulk at most 1048576: NARROWER than '..Said'. Prove '..Said' where nothing that the law and all that it calls make is longer than what came in: it says more and counts as full. Else prove '..UptoSaid'. A law counts once. -/
mutual
def uptoBulk {H : Type} : DataW H → Nat
  | .lit (.string bytes) => bytes.length + 1
  | .lit _ => 1
  | .nil => 1
  | .ptr d => uptoBulk d + 1
  | .slice elems spare => uptoBulkAll elems + uptoBulkAll spare + 1
  | .agg parts => uptoBulkAll parts + 1
  | .iface _ d => uptoBulk d + 1
  | .map entries => uptoBulkEntries entries + 1
  | .held _ => 1
def uptoBulkAll {H : Type} : List (DataW H) → Nat
  | [] => 0
  | d :: r => uptoBulk d + uptoBulkAll r
def uptoBulkEntries {H : Type} : List (Lit × DataW H) → Nat
  | [] => 0
  | x :: r => uptoBulkEntry x + uptoBulkEntries r
def uptoBulkEntry {H : Type} : Lit × DataW H → Nat
  | (.string bytes, d) => bytes.length + uptoBulk d + 1
  | (_, d) => uptoBulk d + 1
 end
def uptoSmall : (H : Type) → List (DataW H) → Bool := fun _ ds => decide (uptoBulkAll ds ≤ 1048576)
def OpenSpec.upto (s : _root_.Go.ChangeSpec) : _root_.Go.OpenSpec := { _root_.Go.OpenSpec.ofChange s with cond := some uptoSmall }

/-- 'cellularlaw04.SymmetryApplies', WHERE WHAT IT READS IS OF BULK AT MOST 1048576: true; the input reads as it did. -/
def symmetryAppliesUptoRow : OpenClaim := { program := "ytobbkclfbbblaaadoor", sum := "b22dad37d0105e86616855977f668887b7a3f1532545379dfaceab7e81406c1d", func := "cellular/cellularlaw04.SymmetryApplies", spec := "symmetryApplies", unfollowed := true, recurses := true, named := ["cellular/symmetry.matrices"], apart := false, laid := [("cellular/symmetry.matrices", laid_cellular_symmetry_matrices)], narrowed := true }
def SymmetryAppliesUptoSaid : Prop := symmetryAppliesUptoRow.holds Tryd.pinned (OpenSpec.upto symmetryAppliesSpec)

/-- 'cellularlaw04.SymmetryComposes', WHERE WHAT IT READS IS OF BULK AT MOST 1048576: true; the input reads as it did. -/
def symmetryComposesUptoRow : OpenClaim := { program := "ytobbkclfbbblaaadoor", sum := "b22dad37d0105e86616855977f668887b7a3f1532545379dfaceab7e81406c1d", func := "cellular/cellularlaw04.SymmetryComposes", spec := "symmetryComposes", unfollowed := true, recurses := true, named := ["cellular/symmetry.matrices"], apart := false, laid := [("cellular/symmetry.matrices", laid_cellular_symmetry_matrices)], narrowed := true }
def SymmetryComposesUptoSaid : Prop := symmetryComposesUptoRow.holds Tryd.pinned (OpenSpec.upto symmetryComposesSpec)

/-- 'cellularlaw04.SymmetryTurns', WHERE WHAT IT READS IS OF BULK AT MOST 1048576: true; the input reads as it did. -/
def symmetryTurnsUptoRow : OpenClaim := { program := "ytobbkclfbbblaaadoor", sum := "b22dad37d0105e86616855977f668887b7a3f1532545379dfaceab7e81406c1d", func := "cellular/cellularlaw04.SymmetryTurns", spec := "symmetryTurns", unfollowed := true, recurses := true, named := ["cellular/symmetry.matrices"], apart := false, laid := [("cellular/symmetry.matrices", laid_cellular_symmetry_matrices)], narrowed := true }
def SymmetryTurnsUptoSaid : Prop := symmetryTurnsUptoRow.holds Tryd.pinned (OpenSpec.upto symmetryTurnsSpec)

/-- 'cellularlaw04.SymmetryGroups', WHERE WHAT IT READS IS OF BULK AT MOST 1048576: true; the input reads as it did. -/
def symmetryGroupsUptoRow : OpenClaim := { program := "ytobbkclfbbblaaadoor", sum := "b22dad37d0105e86616855977f668887b7a3f1532545379dfaceab7e81406c1d", func := "cellular/cellularlaw04.SymmetryGroups", spec := "symmetryGroups", unfollowed := true, recurses := true, named := ["cellular/symmetry.matrices"], apart := false, laid := [("cellular/symmetry.matrices", laid_cellular_symmetry_matrices)], narrowed := true }
def SymmetryGroupsUptoSaid : Prop := symmetryGroupsUptoRow.holds Tryd.pinned (OpenSpec.upto symmetryGroupsSpec)

/-- 'cellularlaw04.SymmetryOrbits', WHERE WHAT IT READS IS OF BULK AT MOST 1048576: true; the input reads as it did. -/
def symmetryOrbitsUptoRow : OpenClaim := { program := "ytobbkclfbbblaaadoor", sum := "b22dad37d0105e86616855977f668887b7a3f1532545379dfaceab7e81406c1d", func := "cellular/cellularlaw04.SymmetryOrbits", spec := "symmetryOrbits", unfollowed := true, recurses := true, named := ["cellular/symmetry.matrices"], apart := false, laid := [("cellular/symmetry.matrices", laid_cellular_symmetry_matrices)], narrowed := true }
def SymmetryOrbitsUptoSaid : Prop := symmetryOrbitsUptoRow.holds Tryd.pinned (OpenSpec.upto symmetryOrbitsSpec)

/-- 'cellularlaw07.HoodUsual', WHERE WHAT IT READS IS OF BULK AT MOST 1048576: true; the input reads as it did. -/
def hoodUsualUptoRow : OpenClaim := { program := "ytobbkclfbbblaaadoor", sum := "b22dad37d0105e86616855977f668887b7a3f1532545379dfaceab7e81406c1d", func := "cellular/cellularlaw07.HoodUsual", spec := "hoodUsual", unfollowed := true, recurses := true, named := ["cellular/symmetry.matrices"], apart := false, laid := [("cellular/symmetry.matrices", laid_cellular_symmetry_matrices)], narrowed := true }
def HoodUsualUptoSaid : Prop := hoodUsualUptoRow.holds Tryd.pinned (OpenSpec.upto hoodUsualSpec)

/-- 'cellularlaw07.HoodRight', WHERE WHAT IT READS IS OF BULK AT MOST 1048576: true; the input reads as it did. -/
def hoodRightUptoRow : OpenClaim := { program := "ytobbkclfbbblaaadoor", sum := "b22dad37d0105e86616855977f668887b7a3f1532545379dfaceab7e81406c1d", func := "cellular/cellularlaw07.HoodRight", spec := "hoodRight", unfollowed := true, recurses := true, named := ["cellular/symmetry.matrices"], apart := false, laid := [("cellular/symmetry.matrices", laid_cellular_symmetry_matrices)], narrowed := true }
def HoodRightUptoSaid : Prop := hoodRightUptoRow.holds Tryd.pinned (OpenSpec.upto hoodRightSpec)

/-- 'cellularlaw07.HoodSame', WHERE WHAT IT READS IS OF BULK AT MOST 1048576: true; the input reads as it did. -/
def hoodSameUptoRow : OpenClaim := { program := "ytobbkclfbbblaaadoor", sum := "b22dad37d0105e86616855977f668887b7a3f1532545379dfaceab7e81406c1d", func := "cellular/cellularlaw07.HoodSame", spec := "hoodSame", unfollowed := true, recurses := true, named := ["cellular/symmetry.matrices"], apart := false, laid := [("cellular/symmetry.matrices", laid_cellular_symmetry_matrices)], narrowed := true }
def HoodSameUptoSaid : Prop := hoodSameUptoRow.holds Tryd.pinned (OpenSpec.upto hoodSameSpec)

/-- 'cellularlaw07.HoodSyms', WHERE WHAT IT READS IS OF BULK AT MOST 1048576: true; the input reads as it did. -/
def hoodSymsUptoRow : OpenClaim := { program := "ytobbkclfbbblaaadoor", sum := "b22dad37d0105e86616855977f668887b7a3f1532545379dfaceab7e81406c1d", func := "cellular/cellularlaw07.HoodSyms", spec := "hoodSyms", unfollowed := true, recurses := true, named := ["cellular/symmetry.matrices"], apart := false, laid := [("cellular/symmetry.matrices", laid_cellular_symmetry_matrices)], narrowed := true }
def HoodSymsUptoSaid : Prop := hoodSymsUptoRow.holds Tryd.pinned (OpenSpec.upto hoodSymsSpec)

end Rows
end Go.Proofs.YtobbkclfbbblaaaDoor
