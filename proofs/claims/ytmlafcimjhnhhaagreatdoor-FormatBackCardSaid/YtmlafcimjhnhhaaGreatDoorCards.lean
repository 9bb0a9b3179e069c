/-
  DERIVED. GIVEN WITH THE SEED: THE CARDS: each row of YtmlafcimjhnhhaaGreatDoorRows.lean that lists a variable, with what it lists TIED to the program's text (the seventh form; the later family's looks); each row that meets fmt, with fmt's text TOLD by the authors' own Lean function (tested against real Go, not proved from fmt's source: count such statements apart). THE CARD IS WHAT COUNTS. Prove the row's statement (the work); the ties are given (YtmlafcimjhnhhaaGreatDoorTie.lean); close each card by the builder's one call (the guide's Derived/Test/ToyasCard.lean, 'card_holds'). Laid BY PROGRAM, IN A SANDBOX (cutbox-door.mjs). By AI agents, Wed Nov 11 2026. No macro, syntax, notation, axiom, sorry.
-/
import Derived.Test.YtmlafcimjhnhhaaGreatDoorRows
import GoSem.ClaimSeven
namespace Go.Proofs.YtmlafcimjhnhhaaGreatDoor
namespace Rows

/-- THE TIED CARD OF 'dataflowlaw09.FormatExprs'. -/
def formatExprsCard : Claim7 := { stood := { row := formatExprsRow, standIns := [], harness := (true, "5e83ec187ff76dab8b98b1cdcc63c95f2a8832652d3079243f7868bd023d13f4"), looks := true }, kinds := [], alts := [], laidByText := true, laidKinds := [.data, .data, .data, .sentinel, .sentinel, .data, .data, .data], laidTests := true, laidLooks := .later }
def FormatExprsCardSaid : Prop := Claim7.holds Tryz.pinned (.plain (OpenSpec.ofChange formatExprsSpec)) formatExprsCard

/-- THE TIED CARD OF 'dataflowlaw09.FormatBack'. -/
def formatBackCard : Claim7 := { stood := { row := formatBackRow, standIns := [], harness := (true, "5e83ec187ff76dab8b98b1cdcc63c95f2a8832652d3079243f7868bd023d13f4"), looks := true }, kinds := [], alts := [], laidByText := true, laidKinds := [.data, .data, .data, .sentinel, .sentinel, .data, .data, .data], laidTests := true, laidLooks := .later }
def FormatBackCardSaid : Prop := Claim7.holds Tryz.pinned (.plain (OpenSpec.ofChange formatBackSpec)) formatBackCard

/-- THE TIED CARD OF 'dataflowlaw09.FormatFixed'. -/
def formatFixedCard : Claim7 := { stood := { row := formatFixedRow, standIns := [], harness := (true, "5e83ec187ff76dab8b98b1cdcc63c95f2a8832652d3079243f7868bd023d13f4"), looks := true }, kinds := [], alts := [], laidByText := true, laidKinds := [.data, .data, .data, .sentinel, .sentinel, .data, .data, .data], laidTests := true, laidLooks := .later }
def FormatFixedCardSaid : Prop := Claim7.holds Tryz.pinned (.plain (OpenSpec.ofChange formatFixedSpec)) formatFixedCard

/-- THE SECOND FORM's CARD OF 'dataflowlaw09.FormatExprs'. -/
def formatExprsUptoCard : Claim7 := { stood := { row := formatExprsUptoRow, standIns := [], harness := (true, "5e83ec187ff76dab8b98b1cdcc63c95f2a8832652d3079243f7868bd023d13f4"), looks := true }, kinds := [], alts := [], laidByText := true, laidKinds := [.data, .data, .data, .sentinel, .sentinel, .data, .data, .data], laidTests := true, laidLooks := .later }
def FormatExprsUptoCardSaid : Prop := Claim7.holds Tryz.pinned (.plain (OpenSpec.upto formatExprsSpec)) formatExprsUptoCard

/-- THE SECOND FORM's CARD OF 'dataflowlaw09.FormatBack'. -/
def formatBackUptoCard : Claim7 := { stood := { row := formatBackUptoRow, standIns := [], harness := (true, "5e83ec187ff76dab8b98b1cdcc63c95f2a8832652d3079243f7868bd023d13f4"), looks := true }, kinds := [], alts := [], laidByText := true, laidKinds := [.data, .data, .data, .sentinel, .sentinel, .data, .data, .data], laidTests := true, laidLooks := .later }
def FormatBackUptoCardSaid : Prop := Claim7.holds Tryz.pinned (.plain (OpenSpec.upto formatBackSpec)) formatBackUptoCard

/-- THE SECOND FORM's CARD OF 'dataflowlaw09.FormatFixed'. -/
def formatFixedUptoCard : Claim7 := { stood := { row := formatFixedUptoRow, standIns := [], harness := (true, "5e83ec187ff76dab8b98b1cdcc63c95f2a8832652d3079243f7868bd023d13f4"), looks := true }, kinds := [], alts := [], laidByText := true, laidKinds := [.data, .data, .data, .sentinel, .sentinel, .data, .data, .data], laidTests := true, laidLooks := .later }
def FormatFixedUptoCardSaid : Prop := Claim7.holds Tryz.pinned (.plain (OpenSpec.upto formatFixedSpec)) formatFixedUptoCard
end Rows
end Go.Proofs.YtmlafcimjhnhhaaGreatDoor
