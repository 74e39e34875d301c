/-
  DERIVED. GIVEN WITH THE SEED: THE CARDS: each row of YtnhapgbjaeaamaaDoorRows.lean that lists a variable, with what it lists TIED to the program's text (the seventh form; the later family's looks); each row that meets fmt, with fmt's text TOLD by the authors' own Lean function (tested against real Go, not proved from fmt's source: count such statements apart). THE CARD IS WHAT COUNTS. Prove the row's statement (the work); the ties are given (YtnhapgbjaeaamaaDoorTie.lean); close each card by the builder's one call (the guide's Derived/Test/ToyasCard.lean, 'card_holds'). Laid BY PROGRAM, IN A SANDBOX (cutbox-door.mjs). By AI agents, Wed Nov 11 2026. No macro, syntax, notation, axiom, sorry.
-/
import Derived.Test.YtnhapgbjaeaamaaDoorRows
import GoSem.ClaimSeven
namespace Go.Proofs.YtnhapgbjaeaamaaDoor
namespace Rows

/-- THE TIED CARD OF 'cellularlaw44.ProblemTwice'. -/
def problemTwiceCard : Claim7 := { stood := { row := problemTwiceRow, standIns := [], harness := (true, "4a6e9c607d047b6b9f64a92d5cb8579f3e1c58bb7add96047f6e09909b7b50e3"), looks := false }, kinds := [], alts := [], laidByText := true, laidKinds := [.widerDeep], laidTests := true, laidLooks := .later }
def ProblemTwiceCardSaid : Prop := Claim7.holds Tryd.pinned (.plain (OpenSpec.ofChange problemTwiceSpec)) problemTwiceCard

/-- THE SECOND FORM's CARD OF 'cellularlaw44.ProblemTwice'. -/
def problemTwiceUptoCard : Claim7 := { stood := { row := problemTwiceUptoRow, standIns := [], harness := (true, "4a6e9c607d047b6b9f64a92d5cb8579f3e1c58bb7add96047f6e09909b7b50e3"), looks := false }, kinds := [], alts := [], laidByText := true, laidKinds := [.widerDeep], laidTests := true, laidLooks := .later }
def ProblemTwiceUptoCardSaid : Prop := Claim7.holds Tryd.pinned (.plain (OpenSpec.upto problemTwiceSpec)) problemTwiceUptoCard
end Rows
end Go.Proofs.YtnhapgbjaeaamaaDoor
