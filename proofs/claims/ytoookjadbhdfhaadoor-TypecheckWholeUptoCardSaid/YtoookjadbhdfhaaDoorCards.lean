/-
  DERIVED. GIVEN WITH THE SEED: THE CARDS: each row of YtoookjadbhdfhaaDoorRows.lean that lists a variable, with what it lists TIED to the program's text (the seventh form; the later family's looks); each row that meets fmt, with fmt's text TOLD by the authors' own Lean function (tested against real Go, not proved from fmt's source: count such statements apart). THE CARD IS WHAT COUNTS. Prove the row's statement (the work); the ties are given (YtoookjadbhdfhaaDoorTie.lean); close each card by the builder's one call (the guide's Derived/Test/ToyasCard.lean, 'card_holds'). Laid BY PROGRAM, IN A SANDBOX (cutbox-door.mjs). By AI agents, Wed Nov 11 2026. No macro, syntax, notation, axiom, sorry.
-/
import Derived.Test.YtoookjadbhdfhaaDoorRows
import GoSem.ClaimSeven
namespace Go.Proofs.YtoookjadbhdfhaaDoor
namespace Rows

/-- THE TIED CARD OF 'dataflowlaw11.TypecheckWhole'. -/
def typecheckWholeCard : Claim7 := { stood := { row := typecheckWholeRow, standIns := [], harness := (true, "78b2ecee8ef7c8a41899bf868b68933916908a46461a35f898a90adb1399366c"), looks := true }, kinds := [], alts := [], laidByText := true, laidKinds := [.data], laidTests := true, laidLooks := .later }
def TypecheckWholeCardSaid : Prop := Claim7.holds Tryd.pinned (.plain (OpenSpec.ofChange typecheckWholeSpec)) typecheckWholeCard

/-- THE SECOND FORM's CARD OF 'dataflowlaw11.TypecheckWhole'. -/
def typecheckWholeUptoCard : Claim7 := { stood := { row := typecheckWholeUptoRow, standIns := [], harness := (true, "78b2ecee8ef7c8a41899bf868b68933916908a46461a35f898a90adb1399366c"), looks := true }, kinds := [], alts := [], laidByText := true, laidKinds := [.data], laidTests := true, laidLooks := .later }
def TypecheckWholeUptoCardSaid : Prop := Claim7.holds Tryd.pinned (.plain (OpenSpec.upto typecheckWholeSpec)) typecheckWholeUptoCard
end Rows
end Go.Proofs.YtoookjadbhdfhaaDoor
