/-
  DERIVED. GIVEN WITH THE SEED: THE CARDS: each row of YtmlafcimjhnhhaaDoorRows.lean that lists a variable, with what it lists TIED to the program's text (the seventh form; the later family's looks); each row that meets fmt, with fmt's text TOLD by the authors' own Lean function (tested against real Go, not proved from fmt's source: count such statements apart). THE CARD IS WHAT COUNTS. Prove the row's statement (the work); the ties are given (YtmlafcimjhnhhaaDoorTie.lean); close each card by the builder's one call (the guide's Derived/Test/ToyasCard.lean, 'card_holds'). Laid BY PROGRAM, IN A SANDBOX (cutbox-door.mjs). By AI agents, Wed Nov 11 2026. No macro, syntax, notation, axiom, sorry.
-/
import Derived.Test.YtmlafcimjhnhhaaDoorRows
import GoSem.ClaimSeven
namespace Go.Proofs.YtmlafcimjhnhhaaDoor
namespace Rows

/-- THE TIED CARD OF 'dataflowlaw09.FormatTexts'. -/
def formatTextsCard : Claim7 := { stood := { row := formatTextsRow, standIns := [], harness := (true, "5d74829908e1355531ea72d18765a45bc768d38ba442c2b41e45e50b7982023a"), looks := false }, kinds := [], alts := [], laidByText := true, laidKinds := [.data, .data, .data, .data, .data], laidTests := true, laidLooks := .later }
def FormatTextsCardSaid : Prop := Claim7.holds Tryd.pinned (.plain (OpenSpec.ofChange formatTextsSpec)) formatTextsCard

/-- THE TIED CARD OF 'dataflowlaw09.FormatLines'. -/
def formatLinesCard : Claim7 := { stood := { row := formatLinesRow, standIns := [], harness := (true, "5d74829908e1355531ea72d18765a45bc768d38ba442c2b41e45e50b7982023a"), looks := false }, kinds := [], alts := [], laidByText := true, laidKinds := [.data, .data, .data, .data, .data], laidTests := true, laidLooks := .later }
def FormatLinesCardSaid : Prop := Claim7.holds Tryd.pinned (.plain (OpenSpec.ofChange formatLinesSpec)) formatLinesCard

/-- THE TIED CARD OF 'dataflowlaw09.FormatMethods'. -/
def formatMethodsCard : Claim7 := { stood := { row := formatMethodsRow, standIns := [], harness := (true, "5d74829908e1355531ea72d18765a45bc768d38ba442c2b41e45e50b7982023a"), looks := false }, kinds := [], alts := [], laidByText := true, laidKinds := [.data, .data, .data, .data, .data], laidTests := true, laidLooks := .later }
def FormatMethodsCardSaid : Prop := Claim7.holds Tryd.pinned (.plain (OpenSpec.ofChange formatMethodsSpec)) formatMethodsCard

/-- THE SECOND FORM's CARD OF 'dataflowlaw09.FormatTexts'. -/
def formatTextsUptoCard : Claim7 := { stood := { row := formatTextsUptoRow, standIns := [], harness := (true, "5d74829908e1355531ea72d18765a45bc768d38ba442c2b41e45e50b7982023a"), looks := false }, kinds := [], alts := [], laidByText := true, laidKinds := [.data, .data, .data, .data, .data], laidTests := true, laidLooks := .later }
def FormatTextsUptoCardSaid : Prop := Claim7.holds Tryd.pinned (.plain (OpenSpec.upto formatTextsSpec)) formatTextsUptoCard

/-- THE SECOND FORM's CARD OF 'dataflowlaw09.FormatLines'. -/
def formatLinesUptoCard : Claim7 := { stood := { row := formatLinesUptoRow, standIns := [], harness := (true, "5d74829908e1355531ea72d18765a45bc768d38ba442c2b41e45e50b7982023a"), looks := false }, kinds := [], alts := [], laidByText := true, laidKinds := [.data, .data, .data, .data, .data], laidTests := true, laidLooks := .later }
def FormatLinesUptoCardSaid : Prop := Claim7.holds Tryd.pinned (.plain (OpenSpec.upto formatLinesSpec)) formatLinesUptoCard

/-- THE SECOND FORM's CARD OF 'dataflowlaw09.FormatMethods'. -/
def formatMethodsUptoCard : Claim7 := { stood := { row := formatMethodsUptoRow, standIns := [], harness := (true, "5d74829908e1355531ea72d18765a45bc768d38ba442c2b41e45e50b7982023a"), looks := false }, kinds := [], alts := [], laidByText := true, laidKinds := [.data, .data, .data, .data, .data], laidTests := true, laidLooks := .later }
def FormatMethodsUptoCardSaid : Prop := Claim7.holds Tryd.pinned (.plain (OpenSpec.upto formatMethodsSpec)) formatMethodsUptoCard
end Rows
end Go.Proofs.YtmlafcimjhnhhaaDoor
