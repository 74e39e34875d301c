/-
  No cell of these rows narrows 'for every input' (looked for: loops, veiled, ifaces, maps, wideKeys, modest, calm, conditions, laid).
  DERIVED. THE GIVEN ROWS OF THIS SEAT. 12 by the template 'for every input the law returns true; each argument reads behind the call as it read before'; 0 by the template 'total and deterministic' (their statements: YtnhnkmppmicjoaaTotals.lean).
  GIVEN WITH THE SEED: the statements are not yours to turn. If you find one false, say at which input.
  Laid BY PROGRAM, IN A SANDBOX (cutbox-rows.mjs): the forced cells as the released guide's own fill.sh prints them over the translation a8e1b2e8e9871f26… (all of the seat's roots in one cut). By AI agents, Wed Nov 11 2026. No macro, syntax, notation, axiom, sorry.
-/
import Derived.Test.YtnhnkmppmicjoaaChecked
import GoSem.Claim
import GoSem.ClaimJoined
import GoSem.ClaimMapViews
import Derived.JoinedTies
import Derived.KernelRfl
namespace Go.Proofs.Ytnhnkmppmicjoaa
/- THE CELL 'sum', in the pinned program and in every row, IS THE sha256 OF THE DUMP (.gsa) THAT YtnhnkmppmicjoaaProg.lean LOADS. Nothing in Lean hashes anything: it is a label: what it is worth is what the hold of that sum in a sandbox is worth. -/
noncomputable def Try.pinned : Pinned := { name := "ytnhnkmppmicjoaa", sum := "a8e1b2e8e9871f2677a80658b1f76af7568b954970103fc60aef9eb61bcb3766", checked := Try.checked }
namespace Rows
def none {H : Type} : Left H := { results := [], args := [] }

/-- 'cellularlaw03.PointSorts': WHATEVER THE INPUT: true; the input reads as it did. -/
def pointSortsSpec : ChangeSpec := { name := "pointSorts", fn := fun _ => fun
  | [d1, d2, d3] => { results := [.lit (.bool true)], args := [d1, d2, d3] }
  | _ => none }
def pointSortsRow : OpenClaim := { program := "ytnhnkmppmicjoaa", sum := "a8e1b2e8e9871f2677a80658b1f76af7568b954970103fc60aef9eb61bcb3766", func := "cellular/cellularlaw03.PointSorts", spec := "pointSorts", unfollowed := true, recurses := true, apart := false }
def PointSortsSaid : Prop := pointSortsRow.holds Try.pinned (OpenSpec.ofChange pointSortsSpec)

/-- ITS FALSE NEIGHBOUR: 'it returns false'. Refute it at one input. -/
def pointSortsWrong : ChangeSpec := { name := "pointSorts", fn := fun _ => fun
  | [d1, d2, d3] => { results := [.lit (.bool false)], args := [d1, d2, d3] }
  | _ => none }
def PointSortsWrongFalsely : Prop := pointSortsRow.holds Try.pinned (OpenSpec.ofChange pointSortsWrong)

/-- 'cellularlaw03.PointBoxes': WHATEVER THE INPUT: true; the input reads as it did. -/
def pointBoxesSpec : ChangeSpec := { name := "pointBoxes", fn := fun _ => fun
  | [d1, d2] => { results := [.lit (.bool true)], args := [d1, d2] }
  | _ => none }
def pointBoxesRow : OpenClaim := { program := "ytnhnkmppmicjoaa", sum := "a8e1b2e8e9871f2677a80658b1f76af7568b954970103fc60aef9eb61bcb3766", func := "cellular/cellularlaw03.PointBoxes", spec := "pointBoxes", unfollowed := true, recurses := true, apart := false }
def PointBoxesSaid : Prop := pointBoxesRow.holds Try.pinned (OpenSpec.ofChange pointBoxesSpec)

/-- ITS FALSE NEIGHBOUR: 'it returns false'. Refute it at one input. -/
def pointBoxesWrong : ChangeSpec := { name := "pointBoxes", fn := fun _ => fun
  | [d1, d2] => { results := [.lit (.bool false)], args := [d1, d2] }
  | _ => none }
def PointBoxesWrongFalsely : Prop := pointBoxesRow.holds Try.pinned (OpenSpec.ofChange pointBoxesWrong)

/-- 'cellularlaw03.PointArounds': WHATEVER THE INPUT: true; the input reads as it did. -/
def pointAroundsSpec : ChangeSpec := { name := "pointArounds", fn := fun _ => fun
  | [d1, d2, d3] => { results := [.lit (.bool true)], args := [d1, d2, d3] }
  | _ => none }
def pointAroundsRow : OpenClaim := { program := "ytnhnkmppmicjoaa", sum := "a8e1b2e8e9871f2677a80658b1f76af7568b954970103fc60aef9eb61bcb3766", func := "cellular/cellularlaw03.PointArounds", spec := "pointArounds", unfollowed := true, recurses := true, apart := false }
def PointAroundsSaid : Prop := pointAroundsRow.holds Try.pinned (OpenSpec.ofChange pointAroundsSpec)

/-- ITS FALSE NEIGHBOUR: 'it returns false'. Refute it at one input. -/
def pointAroundsWrong : ChangeSpec := { name := "pointArounds", fn := fun _ => fun
  | [d1, d2, d3] => { results := [.lit (.bool false)], args := [d1, d2, d3] }
  | _ => none }
def PointAroundsWrongFalsely : Prop := pointAroundsRow.holds Try.pinned (OpenSpec.ofChange pointAroundsWrong)

/-- 'cellularlaw03.PointMeets': WHATEVER THE INPUT: true; the input reads as it did. -/
def pointMeetsSpec : ChangeSpec := { name := "pointMeets", fn := fun _ => fun
  | [d1, d2] => { results := [.lit (.bool true)], args := [d1, d2] }
  | _ => none }
def pointMeetsRow : OpenClaim := { program := "ytnhnkmppmicjoaa", sum := "a8e1b2e8e9871f2677a80658b1f76af7568b954970103fc60aef9eb61bcb3766", func := "cellular/cellularlaw03.PointMeets", spec := "pointMeets", unfollowed := true, recurses := true, apart := false }
def PointMeetsSaid : Prop := pointMeetsRow.holds Try.pinned (OpenSpec.ofChange pointMeetsSpec)

/-- ITS FALSE NEIGHBOUR: 'it returns false'. Refute it at one input. -/
def pointMeetsWrong : ChangeSpec := { name := "pointMeets", fn := fun _ => fun
  | [d1, d2] => { results := [.lit (.bool false)], args := [d1, d2] }
  | _ => none }
def PointMeetsWrongFalsely : Prop := pointMeetsRow.holds Try.pinned (OpenSpec.ofChange pointMeetsWrong)

/-- 'cellularlaw03.PointMembers': WHATEVER THE INPUT: true; the input reads as it did. -/
def pointMembersSpec : ChangeSpec := { name := "pointMembers", fn := fun _ => fun
  | [d1, d2, d3] => { results := [.lit (.bool true)], args := [d1, d2, d3] }
  | _ => none }
def pointMembersRow : OpenClaim := { program := "ytnhnkmppmicjoaa", sum := "a8e1b2e8e9871f2677a80658b1f76af7568b954970103fc60aef9eb61bcb3766", func := "cellular/cellularlaw03.PointMembers", spec := "pointMembers", unfollowed := true, recurses := true, apart := false }
def PointMembersSaid : Prop := pointMembersRow.holds Try.pinned (OpenSpec.ofChange pointMembersSpec)

/-- ITS FALSE NEIGHBOUR: 'it returns false'. Refute it at one input. -/
def pointMembersWrong : ChangeSpec := { name := "pointMembers", fn := fun _ => fun
  | [d1, d2, d3] => { results := [.lit (.bool false)], args := [d1, d2, d3] }
  | _ => none }
def PointMembersWrongFalsely : Prop := pointMembersRow.holds Try.pinned (OpenSpec.ofChange pointMembersWrong)

/-- 'cellularlaw03.PointBack': WHATEVER THE INPUT: true; the input reads as it did. -/
def pointBackSpec : ChangeSpec := { name := "pointBack", fn := fun _ => fun
  | [d1, d2] => { results := [.lit (.bool true)], args := [d1, d2] }
  | _ => none }
def pointBackRow : OpenClaim := { program := "ytnhnkmppmicjoaa", sum := "a8e1b2e8e9871f2677a80658b1f76af7568b954970103fc60aef9eb61bcb3766", func := "cellular/cellularlaw03.PointBack", spec := "pointBack", unfollowed := true, recurses := true, apart := false }
def PointBackSaid : Prop := pointBackRow.holds Try.pinned (OpenSpec.ofChange pointBackSpec)

/-- ITS FALSE NEIGHBOUR: 'it returns false'. Refute it at one input. -/
def pointBackWrong : ChangeSpec := { name := "pointBack", fn := fun _ => fun
  | [d1, d2] => { results := [.lit (.bool false)], args := [d1, d2] }
  | _ => none }
def PointBackWrongFalsely : Prop := pointBackRow.holds Try.pinned (OpenSpec.ofChange pointBackWrong)

/-- 'cellularlaw05.PatternLists': WHATEVER THE INPUT: true; the input reads as it did. -/
def patternListsSpec : ChangeSpec := { name := "patternLists", fn := fun _ => fun
  | [d1, d2] => { results := [.lit (.bool true)], args := [d1, d2] }
  | _ => none }
def patternListsRow : OpenClaim := { program := "ytnhnkmppmicjoaa", sum := "a8e1b2e8e9871f2677a80658b1f76af7568b954970103fc60aef9eb61bcb3766", func := "cellular/cellularlaw05.PatternLists", spec := "patternLists", inPlace := ["slices.overlaps[cellular/api.Cell]"], unfollowed := true, recurses := true, apart := false }
def PatternListsSaid : Prop := patternListsRow.holds Try.pinned (OpenSpec.ofChange patternListsSpec)

/-- ITS FALSE NEIGHBOUR: 'it returns false'. Refute it at one input. -/
def patternListsWrong : ChangeSpec := { name := "patternLists", fn := fun _ => fun
  | [d1, d2] => { results := [.lit (.bool false)], args := [d1, d2] }
  | _ => none }
def PatternListsWrongFalsely : Prop := patternListsRow.holds Try.pinned (OpenSpec.ofChange patternListsWrong)

/-- 'cellularlaw05.PatternFrom': WHATEVER THE INPUT: true; the input reads as it did. -/
def patternFromSpec : ChangeSpec := { name := "patternFrom", fn := fun _ => fun
  | [d] => { results := [.lit (.bool true)], args := [d] }
  | _ => none }
def patternFromRow : OpenClaim := { program := "ytnhnkmppmicjoaa", sum := "a8e1b2e8e9871f2677a80658b1f76af7568b954970103fc60aef9eb61bcb3766", func := "cellular/cellularlaw05.PatternFrom", spec := "patternFrom", inPlace := ["slices.overlaps[cellular/api.Cell]"], unfollowed := true, recurses := true, apart := false }
def PatternFromSaid : Prop := patternFromRow.holds Try.pinned (OpenSpec.ofChange patternFromSpec)

/-- ITS FALSE NEIGHBOUR: 'it returns false'. Refute it at one input. -/
def patternFromWrong : ChangeSpec := { name := "patternFrom", fn := fun _ => fun
  | [d] => { results := [.lit (.bool false)], args := [d] }
  | _ => none }
def PatternFromWrongFalsely : Prop := patternFromRow.holds Try.pinned (OpenSpec.ofChange patternFromWrong)

/-- 'cellularlaw05.PatternSet': WHATEVER THE INPUT: true; the input reads as it did. -/
def patternSetSpec : ChangeSpec := { name := "patternSet", fn := fun _ => fun
  | [d1, d2] => { results := [.lit (.bool true)], args := [d1, d2] }
  | _ => none }
def patternSetRow : OpenClaim := { program := "ytnhnkmppmicjoaa", sum := "a8e1b2e8e9871f2677a80658b1f76af7568b954970103fc60aef9eb61bcb3766", func := "cellular/cellularlaw05.PatternSet", spec := "patternSet", inPlace := ["slices.overlaps[cellular/api.Cell]"], unfollowed := true, recurses := true, apart := false }
def PatternSetSaid : Prop := patternSetRow.holds Try.pinned (OpenSpec.ofChange patternSetSpec)

/-- ITS FALSE NEIGHBOUR: 'it returns false'. Refute it at one input. -/
def patternSetWrong : ChangeSpec := { name := "patternSet", fn := fun _ => fun
  | [d1, d2] => { results := [.lit (.bool false)], args := [d1, d2] }
  | _ => none }
def PatternSetWrongFalsely : Prop := patternSetRow.holds Try.pinned (OpenSpec.ofChange patternSetWrong)

/-- 'cellularlaw05.PatternShift': WHATEVER THE INPUT: true; the input reads as it did. -/
def patternShiftSpec : ChangeSpec := { name := "patternShift", fn := fun _ => fun
  | [d1, d2, d3] => { results := [.lit (.bool true)], args := [d1, d2, d3] }
  | _ => none }
def patternShiftRow : OpenClaim := { program := "ytnhnkmppmicjoaa", sum := "a8e1b2e8e9871f2677a80658b1f76af7568b954970103fc60aef9eb61bcb3766", func := "cellular/cellularlaw05.PatternShift", spec := "patternShift", inPlace := ["slices.overlaps[cellular/api.Cell]"], unfollowed := true, recurses := true, apart := false }
def PatternShiftSaid : Prop := patternShiftRow.holds Try.pinned (OpenSpec.ofChange patternShiftSpec)

/-- ITS FALSE NEIGHBOUR: 'it returns false'. Refute it at one input. -/
def patternShiftWrong : ChangeSpec := { name := "patternShift", fn := fun _ => fun
  | [d1, d2, d3] => { results := [.lit (.bool false)], args := [d1, d2, d3] }
  | _ => none }
def PatternShiftWrongFalsely : Prop := patternShiftRow.holds Try.pinned (OpenSpec.ofChange patternShiftWrong)

/-- 'cellularlaw05.PatternCells': WHATEVER THE INPUT: true; the input reads as it did. -/
def patternCellsSpec : ChangeSpec := { name := "patternCells", fn := fun _ => fun
  | [d1, d2, d3] => { results := [.lit (.bool true)], args := [d1, d2, d3] }
  | _ => none }
def patternCellsRow : OpenClaim := { program := "ytnhnkmppmicjoaa", sum := "a8e1b2e8e9871f2677a80658b1f76af7568b954970103fc60aef9eb61bcb3766", func := "cellular/cellularlaw05.PatternCells", spec := "patternCells", inPlace := ["slices.overlaps[cellular/api.Cell]"], unfollowed := true, recurses := true, apart := false }
def PatternCellsSaid : Prop := patternCellsRow.holds Try.pinned (OpenSpec.ofChange patternCellsSpec)

/-- ITS FALSE NEIGHBOUR: 'it returns false'. Refute it at one input. -/
def patternCellsWrong : ChangeSpec := { name := "patternCells", fn := fun _ => fun
  | [d1, d2, d3] => { results := [.lit (.bool false)], args := [d1, d2, d3] }
  | _ => none }
def PatternCellsWrongFalsely : Prop := patternCellsRow.holds Try.pinned (OpenSpec.ofChange patternCellsWrong)

/-- 'cellularlaw05.PatternOrder': WHATEVER THE INPUT: true; the input reads as it did. -/
def patternOrderSpec : ChangeSpec := { name := "patternOrder", fn := fun _ => fun
  | [d1, d2, d3] => { results := [.lit (.bool true)], args := [d1, d2, d3] }
  | _ => none }
def patternOrderRow : OpenClaim := { program := "ytnhnkmppmicjoaa", sum := "a8e1b2e8e9871f2677a80658b1f76af7568b954970103fc60aef9eb61bcb3766", func := "cellular/cellularlaw05.PatternOrder", spec := "patternOrder", inPlace := ["slices.overlaps[cellular/api.Cell]"], unfollowed := true, recurses := true, apart := false }
def PatternOrderSaid : Prop := patternOrderRow.holds Try.pinned (OpenSpec.ofChange patternOrderSpec)

/-- ITS FALSE NEIGHBOUR: 'it returns false'. Refute it at one input. -/
def patternOrderWrong : ChangeSpec := { name := "patternOrder", fn := fun _ => fun
  | [d1, d2, d3] => { results := [.lit (.bool false)], args := [d1, d2, d3] }
  | _ => none }
def PatternOrderWrongFalsely : Prop := patternOrderRow.holds Try.pinned (OpenSpec.ofChange patternOrderWrong)

/- THE SECOND FORM. 'bulk': how many values and letters a reading holds, each counted each time it is reached (what is shared counts as often as it is met; a slice's spare places count too). A statement '..UptoSaid' is the law's where the arguments, and the package variables that the reading takes, are together of bulk at most 1048576: NARROWER than '..Said'. Prove '..Said' where nothing that the law and all that it calls make is longer than what came in: it says more and counts as full. Else prove '..UptoSaid'. A law counts once. -/
mutual
def uptoBulk {H : Type} : DataW H → Nat
  | .lit (.string bytes) => bytes.length + 1
  | .lit _ => 1
  | .nil => 1
  | .ptr d => uptoBulk d + 1
  | .slice elems spare => uptoBulkAll elems + uptoBulkAll spare + 1
  | .agg parts => uptoBulkAll parts + 1
  | .iface _ d => uptoBulk d + 1
  | .map entries => uptoBulkEntries entries + 1
  | .held _ => 1
def uptoBulkAll {H : Type} : List (DataW H) → Nat
  | [] => 0
  | d :: r => uptoBulk d + uptoBulkAll r
def uptoBulkEntries {H : Type} : List (Lit × DataW H) → Nat
  | [] => 0
  | x :: r => uptoBulkEntry x + uptoBulkEntries r
def uptoBulkEntry {H : Type} : Lit × DataW H → Nat
  | (.string bytes, d) => bytes.length + uptoBulk d + 1
  | (_, d) => uptoBulk d + 1
 end
def uptoSmall : (H : Type) → List (DataW H) → Bool := fun _ ds => decide (uptoBulkAll ds ≤ 1048576)
def OpenSpec.upto (s : _root_.Go.ChangeSpec) : _root_.Go.OpenSpec := { _root_.Go.OpenSpec.ofChange s with cond := some uptoSmall }

/-- 'cellularlaw03.PointSorts', WHERE WHAT IT READS IS OF BULK AT MOST 1048576: true; the input reads as it did. -/
def pointSortsUptoRow : OpenClaim := { program := "ytnhnkmppmicjoaa", sum := "a8e1b2e8e9871f2677a80658b1f76af7568b954970103fc60aef9eb61bcb3766", func := "cellular/cellularlaw03.PointSorts", spec := "pointSorts", unfollowed := true, recurses := true, apart := false, narrowed := true }
def PointSortsUptoSaid : Prop := pointSortsUptoRow.holds Try.pinned (OpenSpec.upto pointSortsSpec)

/-- 'cellularlaw03.PointBoxes', WHERE WHAT IT READS IS OF BULK AT MOST 1048576: true; the input reads as it did. -/
def pointBoxesUptoRow : OpenClaim := { program := "ytnhnkmppmicjoaa", sum := "a8e1b2e8e9871f2677a80658b1f76af7568b954970103fc60aef9eb61bcb3766", func := "cellular/cellularlaw03.PointBoxes", spec := "pointBoxes", unfollowed := true, recurses := true, apart := false, narrowed := true }
def PointBoxesUptoSaid : Prop := pointBoxesUptoRow.holds Try.pinned (OpenSpec.upto pointBoxesSpec)

/-- 'cellularlaw03.PointArounds', WHERE WHAT IT READS IS OF BULK AT MOST 1048576: true; the input reads as it did. -/
def pointAroundsUptoRow : OpenClaim := { program := "ytnhnkmppmicjoaa", sum := "a8e1b2e8e9871f2677a80658b1f76af7568b954970103fc60aef9eb61bcb3766", func := "cellular/cellularlaw03.PointArounds", spec := "pointArounds", unfollowed := true, recurses := true, apart := false, narrowed := true }
def PointAroundsUptoSaid : Prop := pointAroundsUptoRow.holds Try.pinned (OpenSpec.upto pointAroundsSpec)

/-- 'cellularlaw03.PointMeets', WHERE WHAT IT READS IS OF BULK AT MOST 1048576: true; the input reads as it did. -/
def pointMeetsUptoRow : OpenClaim := { program := "ytnhnkmppmicjoaa", sum := "a8e1b2e8e9871f2677a80658b1f76af7568b954970103fc60aef9eb61bcb3766", func := "cellular/cellularlaw03.PointMeets", spec := "pointMeets", unfollowed := true, recurses := true, apart := false, narrowed := true }
def PointMeetsUptoSaid : Prop := pointMeetsUptoRow.holds Try.pinned (OpenSpec.upto pointMeetsSpec)

/-- 'cellularlaw03.PointMembers', WHERE WHAT IT READS IS OF BULK AT MOST 1048576: true; the input reads as it did. -/
def pointMembersUptoRow : OpenClaim := { program := "ytnhnkmppmicjoaa", sum := "a8e1b2e8e9871f2677a80658b1f76af7568b954970103fc60aef9eb61bcb3766", func := "cellular/cellularlaw03.PointMembers", spec := "pointMembers", unfollowed := true, recurses := true, apart := false, narrowed := true }
def PointMembersUptoSaid : Prop := pointMembersUptoRow.holds Try.pinned (OpenSpec.upto pointMembersSpec)

/-- 'cellularlaw03.PointBack', WHERE WHAT IT READS IS OF BULK AT MOST 1048576: true; the input reads as it did. -/
def pointBackUptoRow : OpenClaim := { program := "ytnhnkmppmicjoaa", sum := "a8e1b2e8e9871f2677a80658b1f76af7568b954970103fc60aef9eb61bcb3766", func := "cellular/cellularlaw03.PointBack", spec := "pointBack", unfollowed := true, recurses := true, apart := false, narrowed := true }
def PointBackUptoSaid : Prop := pointBackUptoRow.holds Try.pinned (OpenSpec.upto pointBackSpec)

/-- 'cellularlaw05.PatternLists', WHERE WHAT IT READS IS OF BULK AT MOST 1048576: true; the input reads as it did. -/
def patternListsUptoRow : OpenClaim := { program := "ytnhnkmppmicjoaa", sum := "a8e1b2e8e9871f2677a80658b1f76af7568b954970103fc60aef9eb61bcb3766", func := "cellular/cellularlaw05.PatternLists", spec := "patternLists", inPlace := ["slices.overlaps[cellular/api.Cell]"], unfollowed := true, recurses := true, apart := false, narrowed := true }
def PatternListsUptoSaid : Prop := patternListsUptoRow.holds Try.pinned (OpenSpec.upto patternListsSpec)

/-- 'cellularlaw05.PatternFrom', WHERE WHAT IT READS IS OF BULK AT MOST 1048576: true; the input reads as it did. -/
def patternFromUptoRow : OpenClaim := { program := "ytnhnkmppmicjoaa", sum := "a8e1b2e8e9871f2677a80658b1f76af7568b954970103fc60aef9eb61bcb3766", func := "cellular/cellularlaw05.PatternFrom", spec := "patternFrom", inPlace := ["slices.overlaps[cellular/api.Cell]"], unfollowed := true, recurses := true, apart := false, narrowed := true }
def PatternFromUptoSaid : Prop := patternFromUptoRow.holds Try.pinned (OpenSpec.upto patternFromSpec)

/-- 'cellularlaw05.PatternSet', WHERE WHAT IT READS IS OF BULK AT MOST 1048576: true; the input reads as it did. -/
def patternSetUptoRow : OpenClaim := { program := "ytnhnkmppmicjoaa", sum := "a8e1b2e8e9871f2677a80658b1f76af7568b954970103fc60aef9eb61bcb3766", func := "cellular/cellularlaw05.PatternSet", spec := "patternSet", inPlace := ["slices.overlaps[cellular/api.Cell]"], unfollowed := true, recurses := true, apart := false, narrowed := true }
def PatternSetUptoSaid : Prop := patternSetUptoRow.holds Try.pinned (OpenSpec.upto patternSetSpec)

/-- 'cellularlaw05.PatternShift', WHERE WHAT IT READS IS OF BULK AT MOST 1048576: true; the input reads as it did. -/
def patternShiftUptoRow : OpenClaim := { program := "ytnhnkmppmicjoaa", sum := "a8e1b2e8e9871f2677a80658b1f76af7568b954970103fc60aef9eb61bcb3766", func := "cellular/cellularlaw05.PatternShift", spec := "patternShift", inPlace := ["slices.overlaps[cellular/api.Cell]"], unfollowed := true, recurses := true, apart := false, narrowed := true }
def PatternShiftUptoSaid : Prop := patternShiftUptoRow.holds Try.pinned (OpenSpec.upto patternShiftSpec)

/-- 'cellularlaw05.PatternCells', WHERE WHAT IT READS IS OF BULK AT MOST 1048576: true; the input reads as it did. -/
def patternCellsUptoRow : OpenClaim := { program := "ytnhnkmppmicjoaa", sum := "a8e1b2e8e9871f2677a80658b1f76af7568b954970103fc60aef9eb61bcb3766", func := "cellular/cellularlaw05.PatternCells", spec := "patternCells", inPlace := ["slices.overlaps[cellular/api.Cell]"], unfollowed := true, recurses := true, apart := false, narrowed := true }
def PatternCellsUptoSaid : Prop := patternCellsUptoRow.holds Try.pinned (OpenSpec.upto patternCellsSpec)

/-- 'cellularlaw05.PatternOrder', WHERE WHAT IT READS IS OF BULK AT MOST 1048576: true; the input reads as it did. -/
def patternOrderUptoRow : OpenClaim := { program := "ytnhnkmppmicjoaa", sum := "a8e1b2e8e9871f2677a80658b1f76af7568b954970103fc60aef9eb61bcb3766", func := "cellular/cellularlaw05.PatternOrder", spec := "patternOrder", inPlace := ["slices.overlaps[cellular/api.Cell]"], unfollowed := true, recurses := true, apart := false, narrowed := true }
def PatternOrderUptoSaid : Prop := patternOrderUptoRow.holds Try.pinned (OpenSpec.upto patternOrderSpec)

end Rows
end Go.Proofs.Ytnhnkmppmicjoaa
