/-
  DERIVED. GIVEN WITH THE SEED: THE CARDS: each row of YtobbkclfbbblaaaDoorRows.lean that lists a variable, with what it lists TIED to the program's text (the seventh form; the later family's looks); each row that meets fmt, with fmt's text TOLD by the authors' own Lean function (tested against real Go, not proved from fmt's source: count such statements apart). THE CARD IS WHAT COUNTS. Prove the row's statement (the work); the ties are given (YtobbkclfbbblaaaDoorTie.lean); close each card by the builder's one call (the guide's Derived/Test/ToyasCard.lean, 'card_holds'). Laid BY PROGRAM, IN A SANDBOX (cutbox-door.mjs). By AI agents, Wed Nov 11 2026. No macro, syntax, notation, axiom, sorry.
-/
import Derived.Test.YtobbkclfbbblaaaDoorRows
import GoSem.ClaimSeven
namespace Go.Proofs.YtobbkclfbbblaaaDoor
namespace Rows

/-- THE TIED CARD OF 'cellularlaw04.SymmetryApplies'. -/
def symmetryAppliesCard : Claim7 := { stood := { row := symmetryAppliesRow, standIns := [], harness := (true, "a3c3ad8f20498efc8705b714cb770282efc52049db093ddcb2f107acb319aff6"), looks := false }, kinds := [], alts := [], laidByText := true, laidKinds := [.widerDeep], laidTests := true, laidLooks := .later }
def SymmetryAppliesCardSaid : Prop := Claim7.holds Tryd.pinned (.plain (OpenSpec.ofChange symmetryAppliesSpec)) symmetryAppliesCard

/-- THE TIED CARD OF 'cellularlaw04.SymmetryComposes'. -/
def symmetryComposesCard : Claim7 := { stood := { row := symmetryComposesRow, standIns := [], harness := (true, "a3c3ad8f20498efc8705b714cb770282efc52049db093ddcb2f107acb319aff6"), looks := false }, kinds := [], alts := [], laidByText := true, laidKinds := [.widerDeep], laidTests := true, laidLooks := .later }
def SymmetryComposesCardSaid : Prop := Claim7.holds Tryd.pinned (.plain (OpenSpec.ofChange symmetryComposesSpec)) symmetryComposesCard

/-- THE TIED CARD OF 'cellularlaw04.SymmetryTurns'. -/
def symmetryTurnsCard : Claim7 := { stood := { row := symmetryTurnsRow, standIns := [], harness := (true, "a3c3ad8f20498efc8705b714cb770282efc52049db093ddcb2f107acb319aff6"), looks := false }, kinds := [], alts := [], laidByText := true, laidKinds := [.widerDeep], laidTests := true, laidLooks := .later }
def SymmetryTurnsCardSaid : Prop := Claim7.holds Tryd.pinned (.plain (OpenSpec.ofChange symmetryTurnsSpec)) symmetryTurnsCard

/-- THE TIED CARD OF 'cellularlaw04.SymmetryGroups'. -/
def symmetryGroupsCard : Claim7 := { stood := { row := symmetryGroupsRow, standIns := [], harness := (true, "a3c3ad8f20498efc8705b714cb770282efc52049db093ddcb2f107acb319aff6"), looks := false }, kinds := [], alts := [], laidByText := true, laidKinds := [.widerDeep], laidTests := true, laidLooks := .later }
def SymmetryGroupsCardSaid : Prop := Claim7.holds Tryd.pinned (.plain (OpenSpec.ofChange symmetryGroupsSpec)) symmetryGroupsCard

/-- THE TIED CARD OF 'cellularlaw04.SymmetryOrbits'. -/
def symmetryOrbitsCard : Claim7 := { stood := { row := symmetryOrbitsRow, standIns := [], harness := (true, "a3c3ad8f20498efc8705b714cb770282efc52049db093ddcb2f107acb319aff6"), looks := false }, kinds := [], alts := [], laidByText := true, laidKinds := [.widerDeep], laidTests := true, laidLooks := .later }
def SymmetryOrbitsCardSaid : Prop := Claim7.holds Tryd.pinned (.plain (OpenSpec.ofChange symmetryOrbitsSpec)) symmetryOrbitsCard

/-- THE TIED CARD OF 'cellularlaw07.HoodUsual'. -/
def hoodUsualCard : Claim7 := { stood := { row := hoodUsualRow, standIns := [], harness := (true, "a3c3ad8f20498efc8705b714cb770282efc52049db093ddcb2f107acb319aff6"), looks := false }, kinds := [], alts := [], laidByText := true, laidKinds := [.widerDeep], laidTests := true, laidLooks := .later }
def HoodUsualCardSaid : Prop := Claim7.holds Tryd.pinned (.plain (OpenSpec.ofChange hoodUsualSpec)) hoodUsualCard

/-- THE TIED CARD OF 'cellularlaw07.HoodRight'. -/
def hoodRightCard : Claim7 := { stood := { row := hoodRightRow, standIns := [], harness := (true, "a3c3ad8f20498efc8705b714cb770282efc52049db093ddcb2f107acb319aff6"), looks := false }, kinds := [], alts := [], laidByText := true, laidKinds := [.widerDeep], laidTests := true, laidLooks := .later }
def HoodRightCardSaid : Prop := Claim7.holds Tryd.pinned (.plain (OpenSpec.ofChange hoodRightSpec)) hoodRightCard

/-- THE TIED CARD OF 'cellularlaw07.HoodSame'. -/
def hoodSameCard : Claim7 := { stood := { row := hoodSameRow, standIns := [], harness := (true, "a3c3ad8f20498efc8705b714cb770282efc52049db093ddcb2f107acb319aff6"), looks := false }, kinds := [], alts := [], laidByText := true, laidKinds := [.widerDeep], laidTests := true, laidLooks := .later }
def HoodSameCardSaid : Prop := Claim7.holds Tryd.pinned (.plain (OpenSpec.ofChange hoodSameSpec)) hoodSameCard

/-- THE TIED CARD OF 'cellularlaw07.HoodSyms'. -/
def hoodSymsCard : Claim7 := { stood := { row := hoodSymsRow, standIns := [], harness := (true, "a3c3ad8f20498efc8705b714cb770282efc52049db093ddcb2f107acb319aff6"), looks := false }, kinds := [], alts := [], laidByText := true, laidKinds := [.widerDeep], laidTests := true, laidLooks := .later }
def HoodSymsCardSaid : Prop := Claim7.holds Tryd.pinned (.plain (OpenSpec.ofChange hoodSymsSpec)) hoodSymsCard

/-- THE SECOND FORM's CARD OF 'cellularlaw04.SymmetryApplies'. -/
def symmetryAppliesUptoCard : Claim7 := { stood := { row := symmetryAppliesUptoRow, standIns := [], harness := (true, "a3c3ad8f20498efc8705b714cb770282efc52049db093ddcb2f107acb319aff6"), looks := false }, kinds := [], alts := [], laidByText := true, laidKinds := [.widerDeep], laidTests := true, laidLooks := .later }
def SymmetryAppliesUptoCardSaid : Prop := Claim7.holds Tryd.pinned (.plain (OpenSpec.upto symmetryAppliesSpec)) symmetryAppliesUptoCard

/-- THE SECOND FORM's CARD OF 'cellularlaw04.SymmetryComposes'. -/
def symmetryComposesUptoCard : Claim7 := { stood := { row := symmetryComposesUptoRow, standIns := [], harness := (true, "a3c3ad8f20498efc8705b714cb770282efc52049db093ddcb2f107acb319aff6"), looks := false }, kinds := [], alts := [], laidByText := true, laidKinds := [.widerDeep], laidTests := true, laidLooks := .later }
def SymmetryComposesUptoCardSaid : Prop := Claim7.holds Tryd.pinned (.plain (OpenSpec.upto symmetryComposesSpec)) symmetryComposesUptoCard

/-- THE SECOND FORM's CARD OF 'cellularlaw04.SymmetryTurns'. -/
def symmetryTurnsUptoCard : Claim7 := { stood := { row := symmetryTurnsUptoRow, standIns := [], harness := (true, "a3c3ad8f20498efc8705b714cb770282efc52049db093ddcb2f107acb319aff6"), looks := false }, kinds := [], alts := [], laidByText := true, laidKinds := [.widerDeep], laidTests := true, laidLooks := .later }
def SymmetryTurnsUptoCardSaid : Prop := Claim7.holds Tryd.pinned (.plain (OpenSpec.upto symmetryTurnsSpec)) symmetryTurnsUptoCard

/-- THE SECOND FORM's CARD OF 'cellularlaw04.SymmetryGroups'. -/
def symmetryGroupsUptoCard : Claim7 := { stood := { row := symmetryGroupsUptoRow, standIns := [], harness := (true, "a3c3ad8f20498efc8705b714cb770282efc52049db093ddcb2f107acb319aff6"), looks := false }, kinds := [], alts := [], laidByText := true, laidKinds := [.widerDeep], laidTests := true, laidLooks := .later }
def SymmetryGroupsUptoCardSaid : Prop := Claim7.holds Tryd.pinned (.plain (OpenSpec.upto symmetryGroupsSpec)) symmetryGroupsUptoCard

/-- THE SECOND FORM's CARD OF 'cellularlaw04.SymmetryOrbits'. -/
def symmetryOrbitsUptoCard : Claim7 := { stood := { row := symmetryOrbitsUptoRow, standIns := [], harness := (true, "a3c3ad8f20498efc8705b714cb770282efc52049db093ddcb2f107acb319aff6"), looks := false }, kinds := [], alts := [], laidByText := true, laidKinds := [.widerDeep], laidTests := true, laidLooks := .later }
def SymmetryOrbitsUptoCardSaid : Prop := Claim7.holds Tryd.pinned (.plain (OpenSpec.upto symmetryOrbitsSpec)) symmetryOrbitsUptoCard

/-- THE SECOND FORM's CARD OF 'cellularlaw07.HoodUsual'. -/
def hoodUsualUptoCard : Claim7 := { stood := { row := hoodUsualUptoRow, standIns := [], harness := (true, "a3c3ad8f20498efc8705b714cb770282efc52049db093ddcb2f107acb319aff6"), looks := false }, kinds := [], alts := [], laidByText := true, laidKinds := [.widerDeep], laidTests := true, laidLooks := .later }
def HoodUsualUptoCardSaid : Prop := Claim7.holds Tryd.pinned (.plain (OpenSpec.upto hoodUsualSpec)) hoodUsualUptoCard

/-- THE SECOND FORM's CARD OF 'cellularlaw07.HoodRight'. -/
def hoodRightUptoCard : Claim7 := { stood := { row := hoodRightUptoRow, standIns := [], harness := (true, "a3c3ad8f20498efc8705b714cb770282efc52049db093ddcb2f107acb319aff6"), looks := false }, kinds := [], alts := [], laidByText := true, laidKinds := [.widerDeep], laidTests := true, laidLooks := .later }
def HoodRightUptoCardSaid : Prop := Claim7.holds Tryd.pinned (.plain (OpenSpec.upto hoodRightSpec)) hoodRightUptoCard

/-- THE SECOND FORM's CARD OF 'cellularlaw07.HoodSame'. -/
def hoodSameUptoCard : Claim7 := { stood := { row := hoodSameUptoRow, standIns := [], harness := (true, "a3c3ad8f20498efc8705b714cb770282efc52049db093ddcb2f107acb319aff6"), looks := false }, kinds := [], alts := [], laidByText := true, laidKinds := [.widerDeep], laidTests := true, laidLooks := .later }
def HoodSameUptoCardSaid : Prop := Claim7.holds Tryd.pinned (.plain (OpenSpec.upto hoodSameSpec)) hoodSameUptoCard

/-- THE SECOND FORM's CARD OF 'cellularlaw07.HoodSyms'. -/
def hoodSymsUptoCard : Claim7 := { stood := { row := hoodSymsUptoRow, standIns := [], harness := (true, "a3c3ad8f20498efc8705b714cb770282efc52049db093ddcb2f107acb319aff6"), looks := false }, kinds := [], alts := [], laidByText := true, laidKinds := [.widerDeep], laidTests := true, laidLooks := .later }
def HoodSymsUptoCardSaid : Prop := Claim7.holds Tryd.pinned (.plain (OpenSpec.upto hoodSymsSpec)) hoodSymsUptoCard
end Rows
end Go.Proofs.YtobbkclfbbblaaaDoor
