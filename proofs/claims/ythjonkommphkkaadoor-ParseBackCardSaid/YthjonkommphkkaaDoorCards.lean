/-
  DERIVED. GIVEN WITH THE SEED: THE CARDS: each row of YthjonkommphkkaaDoorRows.lean that lists a variable, with what it lists TIED to the program's text (the seventh form; the later family's looks); each row that meets fmt, with fmt's text TOLD by the authors' own Lean function (tested against real Go, not proved from fmt's source: count such statements apart). THE CARD IS WHAT COUNTS. Prove the row's statement (the work); the ties are given (YthjonkommphkkaaDoorTie.lean); close each card by the builder's one call (the guide's Derived/Test/ToyasCard.lean, 'card_holds'). Laid BY PROGRAM, IN A SANDBOX (cutbox-door.mjs). By AI agents, Wed Nov 11 2026. No macro, syntax, notation, axiom, sorry.
-/
import Derived.Test.YthjonkommphkkaaDoorRows
import GoSem.ClaimSeven
namespace Go.Proofs.YthjonkommphkkaaDoor
namespace Rows

/-- THE TIED CARD OF 'dataflowlaw08.ParseSame'. -/
def parseSameCard : Claim7 := { stood := { row := parseSameRow, standIns := [], harness := (true, "4e459ff82e34b941cf5a13b91c2d54ea244579ba85d2ec9403bdc8daadecfe1e"), looks := true }, kinds := [], alts := [], laidByText := true, laidKinds := [.data, .data, .data, .sentinel, .sentinel, .data, .data], laidTests := true, laidLooks := .later }
def ParseSameCardSaid : Prop := Claim7.holds Tryd.pinned (.plain (OpenSpec.ofChange parseSameSpec)) parseSameCard

/-- THE TIED CARD OF 'dataflowlaw08.ParseBack'. -/
def parseBackCard : Claim7 := { stood := { row := parseBackRow, standIns := [], harness := (true, "4e459ff82e34b941cf5a13b91c2d54ea244579ba85d2ec9403bdc8daadecfe1e"), looks := true }, kinds := [], alts := [], laidByText := true, laidKinds := [.data, .data, .data, .sentinel, .sentinel, .data, .data], laidTests := true, laidLooks := .later }
def ParseBackCardSaid : Prop := Claim7.holds Tryd.pinned (.plain (OpenSpec.ofChange parseBackSpec)) parseBackCard

/-- THE TIED CARD OF 'dataflowlaw08.ParseConcats'. -/
def parseConcatsCard : Claim7 := { stood := { row := parseConcatsRow, standIns := [], harness := (true, "4e459ff82e34b941cf5a13b91c2d54ea244579ba85d2ec9403bdc8daadecfe1e"), looks := true }, kinds := [], alts := [], laidByText := true, laidKinds := [.data, .data, .data, .sentinel, .sentinel, .data, .data], laidTests := true, laidLooks := .later }
def ParseConcatsCardSaid : Prop := Claim7.holds Tryd.pinned (.plain (OpenSpec.ofChange parseConcatsSpec)) parseConcatsCard

/-- THE TIED CARD OF 'dataflowlaw08.ParseFirst'. -/
def parseFirstCard : Claim7 := { stood := { row := parseFirstRow, standIns := [], harness := (true, "4e459ff82e34b941cf5a13b91c2d54ea244579ba85d2ec9403bdc8daadecfe1e"), looks := true }, kinds := [], alts := [], laidByText := true, laidKinds := [.data, .data, .data, .sentinel, .sentinel, .data, .data], laidTests := true, laidLooks := .later }
def ParseFirstCardSaid : Prop := Claim7.holds Tryd.pinned (.plain (OpenSpec.ofChange parseFirstSpec)) parseFirstCard

/-- THE SECOND FORM's CARD OF 'dataflowlaw08.ParseSame'. -/
def parseSameUptoCard : Claim7 := { stood := { row := parseSameUptoRow, standIns := [], harness := (true, "4e459ff82e34b941cf5a13b91c2d54ea244579ba85d2ec9403bdc8daadecfe1e"), looks := true }, kinds := [], alts := [], laidByText := true, laidKinds := [.data, .data, .data, .sentinel, .sentinel, .data, .data], laidTests := true, laidLooks := .later }
def ParseSameUptoCardSaid : Prop := Claim7.holds Tryd.pinned (.plain (OpenSpec.upto parseSameSpec)) parseSameUptoCard

/-- THE SECOND FORM's CARD OF 'dataflowlaw08.ParseBack'. -/
def parseBackUptoCard : Claim7 := { stood := { row := parseBackUptoRow, standIns := [], harness := (true, "4e459ff82e34b941cf5a13b91c2d54ea244579ba85d2ec9403bdc8daadecfe1e"), looks := true }, kinds := [], alts := [], laidByText := true, laidKinds := [.data, .data, .data, .sentinel, .sentinel, .data, .data], laidTests := true, laidLooks := .later }
def ParseBackUptoCardSaid : Prop := Claim7.holds Tryd.pinned (.plain (OpenSpec.upto parseBackSpec)) parseBackUptoCard

/-- THE SECOND FORM's CARD OF 'dataflowlaw08.ParseConcats'. -/
def parseConcatsUptoCard : Claim7 := { stood := { row := parseConcatsUptoRow, standIns := [], harness := (true, "4e459ff82e34b941cf5a13b91c2d54ea244579ba85d2ec9403bdc8daadecfe1e"), looks := true }, kinds := [], alts := [], laidByText := true, laidKinds := [.data, .data, .data, .sentinel, .sentinel, .data, .data], laidTests := true, laidLooks := .later }
def ParseConcatsUptoCardSaid : Prop := Claim7.holds Tryd.pinned (.plain (OpenSpec.upto parseConcatsSpec)) parseConcatsUptoCard

/-- THE SECOND FORM's CARD OF 'dataflowlaw08.ParseFirst'. -/
def parseFirstUptoCard : Claim7 := { stood := { row := parseFirstUptoRow, standIns := [], harness := (true, "4e459ff82e34b941cf5a13b91c2d54ea244579ba85d2ec9403bdc8daadecfe1e"), looks := true }, kinds := [], alts := [], laidByText := true, laidKinds := [.data, .data, .data, .sentinel, .sentinel, .data, .data], laidTests := true, laidLooks := .later }
def ParseFirstUptoCardSaid : Prop := Claim7.holds Tryd.pinned (.plain (OpenSpec.upto parseFirstSpec)) parseFirstUptoCard
end Rows
end Go.Proofs.YthjonkommphkkaaDoor
