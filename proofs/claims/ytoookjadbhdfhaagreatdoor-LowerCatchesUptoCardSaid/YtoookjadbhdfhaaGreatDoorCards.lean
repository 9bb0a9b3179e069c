/-
  DERIVED. GIVEN WITH THE SEED: THE CARDS: each row of YtoookjadbhdfhaaGreatDoorRows.lean that lists a variable, with what it lists TIED to the program's text (the seventh form; the later family's looks); each row that meets fmt, with fmt's text TOLD by the authors' own Lean function (tested against real Go, not proved from fmt's source: count such statements apart). THE CARD IS WHAT COUNTS. Prove the row's statement (the work); the ties are given (YtoookjadbhdfhaaGreatDoorTie.lean); close each card by the builder's one call (the guide's Derived/Test/ToyasCard.lean, 'card_holds'). Laid BY PROGRAM, IN A SANDBOX (cutbox-door.mjs). By AI agents, Wed Nov 11 2026. No macro, syntax, notation, axiom, sorry.
-/
import Derived.Test.YtoookjadbhdfhaaGreatDoorRows
import GoSem.ClaimSeven
namespace Go.Proofs.YtoookjadbhdfhaaGreatDoor
namespace Rows

/-- THE TIED CARD OF 'dataflowlaw12.LowerTemps'. -/
def lowerTempsCard : Claim7 := { stood := { row := lowerTempsRow, standIns := [], harness := (true, "f53656463c53449e3339e66a2ce7e65e9338ef5ae29b8f488f0c2332fa9a948e"), looks := true }, kinds := [], alts := [], laidByText := true, laidKinds := [.data, .data, .data, .data], laidTests := true, laidLooks := .later }
def LowerTempsCardSaid : Prop := Claim7.holds Tryz.pinned (.plain (OpenSpec.ofChange lowerTempsSpec)) lowerTempsCard

/-- THE TIED CARD OF 'dataflowlaw12.LowerCatches'. -/
def lowerCatchesCard : Claim7 := { stood := { row := lowerCatchesRow, standIns := [], harness := (true, "f53656463c53449e3339e66a2ce7e65e9338ef5ae29b8f488f0c2332fa9a948e"), looks := true }, kinds := [], alts := [], laidByText := true, laidKinds := [.data, .data, .data, .data], laidTests := true, laidLooks := .later }
def LowerCatchesCardSaid : Prop := Claim7.holds Tryz.pinned (.plain (OpenSpec.ofChange lowerCatchesSpec)) lowerCatchesCard

/-- THE SECOND FORM's CARD OF 'dataflowlaw12.LowerTemps'. -/
def lowerTempsUptoCard : Claim7 := { stood := { row := lowerTempsUptoRow, standIns := [], harness := (true, "f53656463c53449e3339e66a2ce7e65e9338ef5ae29b8f488f0c2332fa9a948e"), looks := true }, kinds := [], alts := [], laidByText := true, laidKinds := [.data, .data, .data, .data], laidTests := true, laidLooks := .later }
def LowerTempsUptoCardSaid : Prop := Claim7.holds Tryz.pinned (.plain (OpenSpec.upto lowerTempsSpec)) lowerTempsUptoCard

/-- THE SECOND FORM's CARD OF 'dataflowlaw12.LowerCatches'. -/
def lowerCatchesUptoCard : Claim7 := { stood := { row := lowerCatchesUptoRow, standIns := [], harness := (true, "f53656463c53449e3339e66a2ce7e65e9338ef5ae29b8f488f0c2332fa9a948e"), looks := true }, kinds := [], alts := [], laidByText := true, laidKinds := [.data, .data, .data, .data], laidTests := true, laidLooks := .later }
def LowerCatchesUptoCardSaid : Prop := Claim7.holds Tryz.pinned (.plain (OpenSpec.upto lowerCatchesSpec)) lowerCatchesUptoCard
end Rows
end Go.Proofs.YtoookjadbhdfhaaGreatDoor
