/-
  DERIVED. GIVEN WITH THE SEED: THE CARDS: each row of YtellglbmbocgkaaGreatDoorRows.lean that lists a variable, with what it lists TIED to the program's text (the seventh form; the later family's looks); each row that meets fmt, with fmt's text TOLD by the authors' own Lean function (tested against real Go, not proved from fmt's source: count such statements apart). THE CARD IS WHAT COUNTS. Prove the row's statement (the work); the ties are given (YtellglbmbocgkaaGreatDoorTie.lean); close each card by the builder's one call (the guide's Derived/Test/ToyasCard.lean, 'card_holds'). Laid BY PROGRAM, IN A SANDBOX (cutbox-door.mjs). By AI agents, Wed Nov 11 2026. No macro, syntax, notation, axiom, sorry.
-/
import Derived.Test.YtellglbmbocgkaaGreatDoorRows
import GoSem.ClaimSeven
namespace Go.Proofs.YtellglbmbocgkaaGreatDoor
namespace Rows

/-- THE TIED CARD OF 'cellulartop.TopTimeline'. -/
def topTimelineCard : Claim7 := { stood := { row := topTimelineRow, standIns := [], harness := (true, "221029709659ece83ddc1f18077aca3555ced5217e531d38703a2a7877cb31f5"), looks := true }, kinds := [], alts := [], laidByText := true, laidKinds := [.data, .data, .data, .data, .widerDeep, .sentinel, .sentinel, .widerDeep, .pinned], laidTests := true, laidLooks := .later }
def TopTimelineCardSaid : Prop := Claim7.holds Tryz.pinned (.plain (OpenSpec.ofChange topTimelineSpec)) topTimelineCard

/-- THE TIED CARD OF 'cellulartop.TopTorus'. -/
def topTorusCard : Claim7 := { stood := { row := topTorusRow, standIns := [], harness := (true, "221029709659ece83ddc1f18077aca3555ced5217e531d38703a2a7877cb31f5"), looks := true }, kinds := [], alts := [], laidByText := true, laidKinds := [.data, .data, .data, .data, .widerDeep, .sentinel, .sentinel, .widerDeep, .pinned], laidTests := true, laidLooks := .later }
def TopTorusCardSaid : Prop := Claim7.holds Tryz.pinned (.plain (OpenSpec.ofChange topTorusSpec)) topTorusCard

/-- THE TIED CARD OF 'cellulartop.TopCollide'. -/
def topCollideCard : Claim7 := { stood := { row := topCollideRow, standIns := [], harness := (true, "221029709659ece83ddc1f18077aca3555ced5217e531d38703a2a7877cb31f5"), looks := true }, kinds := [], alts := [], laidByText := true, laidKinds := [.data, .data, .data, .data, .widerDeep, .sentinel, .sentinel, .widerDeep, .pinned], laidTests := true, laidLooks := .later }
def TopCollideCardSaid : Prop := Claim7.holds Tryz.pinned (.plain (OpenSpec.ofChange topCollideSpec)) topCollideCard

/-- THE SECOND FORM's CARD OF 'cellulartop.TopTimeline'. -/
def topTimelineUptoCard : Claim7 := { stood := { row := topTimelineUptoRow, standIns := [], harness := (true, "221029709659ece83ddc1f18077aca3555ced5217e531d38703a2a7877cb31f5"), looks := true }, kinds := [], alts := [], laidByText := true, laidKinds := [.data, .data, .data, .data, .widerDeep, .sentinel, .sentinel, .widerDeep, .pinned], laidTests := true, laidLooks := .later }
def TopTimelineUptoCardSaid : Prop := Claim7.holds Tryz.pinned (.plain (OpenSpec.upto topTimelineSpec)) topTimelineUptoCard

/-- THE SECOND FORM's CARD OF 'cellulartop.TopTorus'. -/
def topTorusUptoCard : Claim7 := { stood := { row := topTorusUptoRow, standIns := [], harness := (true, "221029709659ece83ddc1f18077aca3555ced5217e531d38703a2a7877cb31f5"), looks := true }, kinds := [], alts := [], laidByText := true, laidKinds := [.data, .data, .data, .data, .widerDeep, .sentinel, .sentinel, .widerDeep, .pinned], laidTests := true, laidLooks := .later }
def TopTorusUptoCardSaid : Prop := Claim7.holds Tryz.pinned (.plain (OpenSpec.upto topTorusSpec)) topTorusUptoCard

/-- THE SECOND FORM's CARD OF 'cellulartop.TopCollide'. -/
def topCollideUptoCard : Claim7 := { stood := { row := topCollideUptoRow, standIns := [], harness := (true, "221029709659ece83ddc1f18077aca3555ced5217e531d38703a2a7877cb31f5"), looks := true }, kinds := [], alts := [], laidByText := true, laidKinds := [.data, .data, .data, .data, .widerDeep, .sentinel, .sentinel, .widerDeep, .pinned], laidTests := true, laidLooks := .later }
def TopCollideUptoCardSaid : Prop := Claim7.holds Tryz.pinned (.plain (OpenSpec.upto topCollideSpec)) topCollideUptoCard
end Rows
end Go.Proofs.YtellglbmbocgkaaGreatDoor
