/-
  DERIVED. GIVEN WITH THE SEED: THE CARDS: each row of YtdjllogimomgmaaDoorRows.lean that lists a variable, with what it lists TIED to the program's text (the seventh form; the later family's looks); each row that meets fmt, with fmt's text TOLD by the authors' own Lean function (tested against real Go, not proved from fmt's source: count such statements apart). THE CARD IS WHAT COUNTS. Prove the row's statement (the work); the ties are given (YtdjllogimomgmaaDoorTie.lean); close each card by the builder's one call (the guide's Derived/Test/ToyasCard.lean, 'card_holds'). Laid BY PROGRAM, IN A SANDBOX (cutbox-door.mjs). By AI agents, Wed Nov 11 2026. No macro, syntax, notation, axiom, sorry.
-/
import Derived.Test.YtdjllogimomgmaaDoorRows
import GoSem.ClaimSeven
namespace Go.Proofs.YtdjllogimomgmaaDoor
namespace Rows

/-- THE TIED CARD OF 'dataflowlaw11.TypecheckReturns'. -/
def typecheckReturnsCard : Claim7 := { stood := { row := typecheckReturnsRow, standIns := [], harness := (true, "f225bd5f3f49498a5f5e285ac45e1d395418705a1c5bf39cc5bfdb005153e525"), looks := true }, kinds := [], alts := [], laidByText := true, laidKinds := [.data], laidTests := true, laidLooks := .later }
def TypecheckReturnsCardSaid : Prop := Claim7.holds Tryd.pinned (.plain (OpenSpec.ofChange typecheckReturnsSpec)) typecheckReturnsCard

/-- THE TIED CARD OF 'dataflowlaw11.TypecheckWhole'. -/
def typecheckWholeCard : Claim7 := { stood := { row := typecheckWholeRow, standIns := [], harness := (true, "f225bd5f3f49498a5f5e285ac45e1d395418705a1c5bf39cc5bfdb005153e525"), looks := true }, kinds := [], alts := [], laidByText := true, laidKinds := [.data], laidTests := true, laidLooks := .later }
def TypecheckWholeCardSaid : Prop := Claim7.holds Tryd.pinned (.plain (OpenSpec.ofChange typecheckWholeSpec)) typecheckWholeCard

/-- THE SECOND FORM's CARD OF 'dataflowlaw11.TypecheckReturns'. -/
def typecheckReturnsUptoCard : Claim7 := { stood := { row := typecheckReturnsUptoRow, standIns := [], harness := (true, "f225bd5f3f49498a5f5e285ac45e1d395418705a1c5bf39cc5bfdb005153e525"), looks := true }, kinds := [], alts := [], laidByText := true, laidKinds := [.data], laidTests := true, laidLooks := .later }
def TypecheckReturnsUptoCardSaid : Prop := Claim7.holds Tryd.pinned (.plain (OpenSpec.upto typecheckReturnsSpec)) typecheckReturnsUptoCard

/-- THE SECOND FORM's CARD OF 'dataflowlaw11.TypecheckWhole'. -/
def typecheckWholeUptoCard : Claim7 := { stood := { row := typecheckWholeUptoRow, standIns := [], harness := (true, "f225bd5f3f49498a5f5e285ac45e1d395418705a1c5bf39cc5bfdb005153e525"), looks := true }, kinds := [], alts := [], laidByText := true, laidKinds := [.data], laidTests := true, laidLooks := .later }
def TypecheckWholeUptoCardSaid : Prop := Claim7.holds Tryd.pinned (.plain (OpenSpec.upto typecheckWholeSpec)) typecheckWholeUptoCard
end Rows
end Go.Proofs.YtdjllogimomgmaaDoor
