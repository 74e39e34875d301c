/-
  DERIVED. GIVEN WITH THE SEED: THE CARDS: each row of YtenckggfgbkfnaaDoorRows.lean that lists a variable, with what it lists TIED to the program's text (the seventh form; the later family's looks); each row that meets fmt, with fmt's text TOLD by the authors' own Lean function (tested against real Go, not proved from fmt's source: count such statements apart). THE CARD IS WHAT COUNTS. Prove the row's statement (the work); the ties are given (YtenckggfgbkfnaaDoorTie.lean); close each card by the builder's one call (the guide's Derived/Test/ToyasCard.lean, 'card_holds'). Laid BY PROGRAM, IN A SANDBOX (cutbox-door.mjs). By AI agents, Wed Nov 11 2026. No macro, syntax, notation, axiom, sorry.
-/
import Derived.Test.YtenckggfgbkfnaaDoorRows
import GoSem.ClaimSeven
namespace Go.Proofs.YtenckggfgbkfnaaDoor
namespace Rows

/-- THE TIED CARD OF 'cellularlaw06.AlgebraOvers'. -/
def algebraOversCard : Claim7 := { stood := { row := algebraOversRow, standIns := [], harness := (true, "d2da1128c396370f3bbd29e80cdb88fe3467a2d3e232c79bc81399357ad61583"), looks := false }, kinds := [], alts := [], laidByText := true, laidKinds := [.widerDeep], laidTests := true, laidLooks := .later }
def AlgebraOversCardSaid : Prop := Claim7.holds Tryd.pinned (.plain (OpenSpec.ofChange algebraOversSpec)) algebraOversCard

/-- THE TIED CARD OF 'cellularlaw06.AlgebraTurns'. -/
def algebraTurnsCard : Claim7 := { stood := { row := algebraTurnsRow, standIns := [], harness := (true, "d2da1128c396370f3bbd29e80cdb88fe3467a2d3e232c79bc81399357ad61583"), looks := false }, kinds := [], alts := [], laidByText := true, laidKinds := [.widerDeep], laidTests := true, laidLooks := .later }
def AlgebraTurnsCardSaid : Prop := Claim7.holds Tryd.pinned (.plain (OpenSpec.ofChange algebraTurnsSpec)) algebraTurnsCard

/-- THE TIED CARD OF 'cellularlaw06.AlgebraTiles'. -/
def algebraTilesCard : Claim7 := { stood := { row := algebraTilesRow, standIns := [], harness := (true, "d2da1128c396370f3bbd29e80cdb88fe3467a2d3e232c79bc81399357ad61583"), looks := false }, kinds := [], alts := [], laidByText := true, laidKinds := [.widerDeep], laidTests := true, laidLooks := .later }
def AlgebraTilesCardSaid : Prop := Claim7.holds Tryd.pinned (.plain (OpenSpec.ofChange algebraTilesSpec)) algebraTilesCard

/-- THE TIED CARD OF 'cellularlaw06.AlgebraParts'. -/
def algebraPartsCard : Claim7 := { stood := { row := algebraPartsRow, standIns := [], harness := (true, "d2da1128c396370f3bbd29e80cdb88fe3467a2d3e232c79bc81399357ad61583"), looks := false }, kinds := [], alts := [], laidByText := true, laidKinds := [.widerDeep], laidTests := true, laidLooks := .later }
def AlgebraPartsCardSaid : Prop := Claim7.holds Tryd.pinned (.plain (OpenSpec.ofChange algebraPartsSpec)) algebraPartsCard

/-- THE TIED CARD OF 'cellularlaw06.AlgebraCells'. -/
def algebraCellsCard : Claim7 := { stood := { row := algebraCellsRow, standIns := [], harness := (true, "d2da1128c396370f3bbd29e80cdb88fe3467a2d3e232c79bc81399357ad61583"), looks := false }, kinds := [], alts := [], laidByText := true, laidKinds := [.widerDeep], laidTests := true, laidLooks := .later }
def AlgebraCellsCardSaid : Prop := Claim7.holds Tryd.pinned (.plain (OpenSpec.ofChange algebraCellsSpec)) algebraCellsCard

/-- THE TIED CARD OF 'cellularlaw06.AlgebraSets'. -/
def algebraSetsCard : Claim7 := { stood := { row := algebraSetsRow, standIns := [], harness := (true, "d2da1128c396370f3bbd29e80cdb88fe3467a2d3e232c79bc81399357ad61583"), looks := false }, kinds := [], alts := [], laidByText := true, laidKinds := [.widerDeep], laidTests := true, laidLooks := .later }
def AlgebraSetsCardSaid : Prop := Claim7.holds Tryd.pinned (.plain (OpenSpec.ofChange algebraSetsSpec)) algebraSetsCard

/-- THE TIED CARD OF 'cellularlaw06.AlgebraGroup'. -/
def algebraGroupCard : Claim7 := { stood := { row := algebraGroupRow, standIns := [], harness := (true, "d2da1128c396370f3bbd29e80cdb88fe3467a2d3e232c79bc81399357ad61583"), looks := false }, kinds := [], alts := [], laidByText := true, laidKinds := [.widerDeep], laidTests := true, laidLooks := .later }
def AlgebraGroupCardSaid : Prop := Claim7.holds Tryd.pinned (.plain (OpenSpec.ofChange algebraGroupSpec)) algebraGroupCard

/-- THE SECOND FORM's CARD OF 'cellularlaw06.AlgebraOvers'. -/
def algebraOversUptoCard : Claim7 := { stood := { row := algebraOversUptoRow, standIns := [], harness := (true, "d2da1128c396370f3bbd29e80cdb88fe3467a2d3e232c79bc81399357ad61583"), looks := false }, kinds := [], alts := [], laidByText := true, laidKinds := [.widerDeep], laidTests := true, laidLooks := .later }
def AlgebraOversUptoCardSaid : Prop := Claim7.holds Tryd.pinned (.plain (OpenSpec.upto algebraOversSpec)) algebraOversUptoCard

/-- THE SECOND FORM's CARD OF 'cellularlaw06.AlgebraTurns'. -/
def algebraTurnsUptoCard : Claim7 := { stood := { row := algebraTurnsUptoRow, standIns := [], harness := (true, "d2da1128c396370f3bbd29e80cdb88fe3467a2d3e232c79bc81399357ad61583"), looks := false }, kinds := [], alts := [], laidByText := true, laidKinds := [.widerDeep], laidTests := true, laidLooks := .later }
def AlgebraTurnsUptoCardSaid : Prop := Claim7.holds Tryd.pinned (.plain (OpenSpec.upto algebraTurnsSpec)) algebraTurnsUptoCard

/-- THE SECOND FORM's CARD OF 'cellularlaw06.AlgebraTiles'. -/
def algebraTilesUptoCard : Claim7 := { stood := { row := algebraTilesUptoRow, standIns := [], harness := (true, "d2da1128c396370f3bbd29e80cdb88fe3467a2d3e232c79bc81399357ad61583"), looks := false }, kinds := [], alts := [], laidByText := true, laidKinds := [.widerDeep], laidTests := true, laidLooks := .later }
def AlgebraTilesUptoCardSaid : Prop := Claim7.holds Tryd.pinned (.plain (OpenSpec.upto algebraTilesSpec)) algebraTilesUptoCard

/-- THE SECOND FORM's CARD OF 'cellularlaw06.AlgebraParts'. -/
def algebraPartsUptoCard : Claim7 := { stood := { row := algebraPartsUptoRow, standIns := [], harness := (true, "d2da1128c396370f3bbd29e80cdb88fe3467a2d3e232c79bc81399357ad61583"), looks := false }, kinds := [], alts := [], laidByText := true, laidKinds := [.widerDeep], laidTests := true, laidLooks := .later }
def AlgebraPartsUptoCardSaid : Prop := Claim7.holds Tryd.pinned (.plain (OpenSpec.upto algebraPartsSpec)) algebraPartsUptoCard

/-- THE SECOND FORM's CARD OF 'cellularlaw06.AlgebraCells'. -/
def algebraCellsUptoCard : Claim7 := { stood := { row := algebraCellsUptoRow, standIns := [], harness := (true, "d2da1128c396370f3bbd29e80cdb88fe3467a2d3e232c79bc81399357ad61583"), looks := false }, kinds := [], alts := [], laidByText := true, laidKinds := [.widerDeep], laidTests := true, laidLooks := .later }
def AlgebraCellsUptoCardSaid : Prop := Claim7.holds Tryd.pinned (.plain (OpenSpec.upto algebraCellsSpec)) algebraCellsUptoCard

/-- THE SECOND FORM's CARD OF 'cellularlaw06.AlgebraSets'. -/
def algebraSetsUptoCard : Claim7 := { stood := { row := algebraSetsUptoRow, standIns := [], harness := (true, "d2da1128c396370f3bbd29e80cdb88fe3467a2d3e232c79bc81399357ad61583"), looks := false }, kinds := [], alts := [], laidByText := true, laidKinds := [.widerDeep], laidTests := true, laidLooks := .later }
def AlgebraSetsUptoCardSaid : Prop := Claim7.holds Tryd.pinned (.plain (OpenSpec.upto algebraSetsSpec)) algebraSetsUptoCard

/-- THE SECOND FORM's CARD OF 'cellularlaw06.AlgebraGroup'. -/
def algebraGroupUptoCard : Claim7 := { stood := { row := algebraGroupUptoRow, standIns := [], harness := (true, "d2da1128c396370f3bbd29e80cdb88fe3467a2d3e232c79bc81399357ad61583"), looks := false }, kinds := [], alts := [], laidByText := true, laidKinds := [.widerDeep], laidTests := true, laidLooks := .later }
def AlgebraGroupUptoCardSaid : Prop := Claim7.holds Tryd.pinned (.plain (OpenSpec.upto algebraGroupSpec)) algebraGroupUptoCard
end Rows
end Go.Proofs.YtenckggfgbkfnaaDoor
