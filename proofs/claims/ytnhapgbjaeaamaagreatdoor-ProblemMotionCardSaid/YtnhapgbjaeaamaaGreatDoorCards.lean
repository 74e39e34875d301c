/-
  DERIVED. GIVEN WITH THE SEED: THE CARDS: each row of YtnhapgbjaeaamaaGreatDoorRows.lean that lists a variable, with what it lists TIED to the program's text (the seventh form; the later family's looks); each row that meets fmt, with fmt's text TOLD by the authors' own Lean function (tested against real Go, not proved from fmt's source: count such statements apart). THE CARD IS WHAT COUNTS. Prove the row's statement (the work); the ties are given (YtnhapgbjaeaamaaGreatDoorTie.lean); close each card by the builder's one call (the guide's Derived/Test/ToyasCard.lean, 'card_holds'). Laid BY PROGRAM, IN A SANDBOX (cutbox-door.mjs). By AI agents, Wed Nov 11 2026. No macro, syntax, notation, axiom, sorry.
-/
import Derived.Test.YtnhapgbjaeaamaaGreatDoorRows
import GoSem.ClaimSeven
namespace Go.Proofs.YtnhapgbjaeaamaaGreatDoor
namespace Rows

/-- THE TIED CARD OF 'cellularlaw44.ProblemChecks'. -/
def problemChecksCard : Claim7 := { stood := { row := problemChecksRow, standIns := [], harness := (true, "64bfa1c900ac1580386f2d2329ed13ea6a1e9d1a6f82355bfa2aa09856570b64"), looks := false }, kinds := [], alts := [], laidByText := true, laidKinds := [.widerDeep], laidTests := true, laidLooks := .later }
def ProblemChecksCardSaid : Prop := Claim7.holds Tryz.pinned (.plain (OpenSpec.ofChange problemChecksSpec)) problemChecksCard

/-- THE TIED CARD OF 'cellularlaw44.ProblemSolves'. -/
def problemSolvesCard : Claim7 := { stood := { row := problemSolvesRow, standIns := [], harness := (true, "64bfa1c900ac1580386f2d2329ed13ea6a1e9d1a6f82355bfa2aa09856570b64"), looks := false }, kinds := [], alts := [], laidByText := true, laidKinds := [.widerDeep], laidTests := true, laidLooks := .later }
def ProblemSolvesCardSaid : Prop := Claim7.holds Tryz.pinned (.plain (OpenSpec.ofChange problemSolvesSpec)) problemSolvesCard

/-- THE TIED CARD OF 'cellularlaw44.ProblemMotion'. -/
def problemMotionCard : Claim7 := { stood := { row := problemMotionRow, standIns := [], harness := (true, "64bfa1c900ac1580386f2d2329ed13ea6a1e9d1a6f82355bfa2aa09856570b64"), looks := false }, kinds := [], alts := [], laidByText := true, laidKinds := [.widerDeep], laidTests := true, laidLooks := .later }
def ProblemMotionCardSaid : Prop := Claim7.holds Tryz.pinned (.plain (OpenSpec.ofChange problemMotionSpec)) problemMotionCard

/-- THE TIED CARD OF 'cellularlaw44.ProblemOrbits'. -/
def problemOrbitsCard : Claim7 := { stood := { row := problemOrbitsRow, standIns := [], harness := (true, "64bfa1c900ac1580386f2d2329ed13ea6a1e9d1a6f82355bfa2aa09856570b64"), looks := false }, kinds := [], alts := [], laidByText := true, laidKinds := [.widerDeep], laidTests := true, laidLooks := .later }
def ProblemOrbitsCardSaid : Prop := Claim7.holds Tryz.pinned (.plain (OpenSpec.ofChange problemOrbitsSpec)) problemOrbitsCard

/-- THE SECOND FORM's CARD OF 'cellularlaw44.ProblemChecks'. -/
def problemChecksUptoCard : Claim7 := { stood := { row := problemChecksUptoRow, standIns := [], harness := (true, "64bfa1c900ac1580386f2d2329ed13ea6a1e9d1a6f82355bfa2aa09856570b64"), looks := false }, kinds := [], alts := [], laidByText := true, laidKinds := [.widerDeep], laidTests := true, laidLooks := .later }
def ProblemChecksUptoCardSaid : Prop := Claim7.holds Tryz.pinned (.plain (OpenSpec.upto problemChecksSpec)) problemChecksUptoCard

/-- THE SECOND FORM's CARD OF 'cellularlaw44.ProblemSolves'. -/
def problemSolvesUptoCard : Claim7 := { stood := { row := problemSolvesUptoRow, standIns := [], harness := (true, "64bfa1c900ac1580386f2d2329ed13ea6a1e9d1a6f82355bfa2aa09856570b64"), looks := false }, kinds := [], alts := [], laidByText := true, laidKinds := [.widerDeep], laidTests := true, laidLooks := .later }
def ProblemSolvesUptoCardSaid : Prop := Claim7.holds Tryz.pinned (.plain (OpenSpec.upto problemSolvesSpec)) problemSolvesUptoCard

/-- THE SECOND FORM's CARD OF 'cellularlaw44.ProblemMotion'. -/
def problemMotionUptoCard : Claim7 := { stood := { row := problemMotionUptoRow, standIns := [], harness := (true, "64bfa1c900ac1580386f2d2329ed13ea6a1e9d1a6f82355bfa2aa09856570b64"), looks := false }, kinds := [], alts := [], laidByText := true, laidKinds := [.widerDeep], laidTests := true, laidLooks := .later }
def ProblemMotionUptoCardSaid : Prop := Claim7.holds Tryz.pinned (.plain (OpenSpec.upto problemMotionSpec)) problemMotionUptoCard

/-- THE SECOND FORM's CARD OF 'cellularlaw44.ProblemOrbits'. -/
def problemOrbitsUptoCard : Claim7 := { stood := { row := problemOrbitsUptoRow, standIns := [], harness := (true, "64bfa1c900ac1580386f2d2329ed13ea6a1e9d1a6f82355bfa2aa09856570b64"), looks := false }, kinds := [], alts := [], laidByText := true, laidKinds := [.widerDeep], laidTests := true, laidLooks := .later }
def ProblemOrbitsUptoCardSaid : Prop := Claim7.holds Tryz.pinned (.plain (OpenSpec.upto problemOrbitsSpec)) problemOrbitsUptoCard
end Rows
end Go.Proofs.YtnhapgbjaeaamaaGreatDoor
