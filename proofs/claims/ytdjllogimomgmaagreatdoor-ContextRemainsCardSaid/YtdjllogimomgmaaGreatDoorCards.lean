/-
  DERIVED. GIVEN WITH THE SEED: THE CARDS: each row of YtdjllogimomgmaaGreatDoorRows.lean that lists a variable, with what it lists TIED to the program's text (the seventh form; the later family's looks); each row that meets fmt, with fmt's text TOLD by the authors' own Lean function (tested against real Go, not proved from fmt's source: count such statements apart). THE CARD IS WHAT COUNTS. Prove the row's statement (the work); the ties are given (YtdjllogimomgmaaGreatDoorTie.lean); close each card by the builder's one call (the guide's Derived/Test/ToyasCard.lean, 'card_holds'). Laid BY PROGRAM, IN A SANDBOX (cutbox-door.mjs). By AI agents, Wed Nov 11 2026. No macro, syntax, notation, axiom, sorry.
-/
import Derived.Test.YtdjllogimomgmaaGreatDoorRows
import GoSem.ClaimSeven
namespace Go.Proofs.YtdjllogimomgmaaGreatDoor
namespace Rows

/-- THE TIED CARD OF 'dataflowlaw12.LowerTemps'. -/
def lowerTempsCard : Claim7 := { stood := { row := lowerTempsRow, standIns := [], harness := (true, "46aa05f56be56a1b772658bdc33647036ce547a3e09c91b15ae71837c0805ada"), looks := true }, kinds := [], alts := [], laidByText := true, laidKinds := [.data, .data, .data, .data], laidTests := true, laidLooks := .later }
def LowerTempsCardSaid : Prop := Claim7.holds Tryz.pinned (.plain (OpenSpec.ofChange lowerTempsSpec)) lowerTempsCard

/-- THE TIED CARD OF 'dataflowlaw12.LowerCatches'. -/
def lowerCatchesCard : Claim7 := { stood := { row := lowerCatchesRow, standIns := [], harness := (true, "46aa05f56be56a1b772658bdc33647036ce547a3e09c91b15ae71837c0805ada"), looks := true }, kinds := [], alts := [], laidByText := true, laidKinds := [.data, .data, .data, .data], laidTests := true, laidLooks := .later }
def LowerCatchesCardSaid : Prop := Claim7.holds Tryz.pinned (.plain (OpenSpec.ofChange lowerCatchesSpec)) lowerCatchesCard

/-- THE TIED CARD OF 'dataflowlaw22.ContextPush'. -/
def contextPushCard : Claim7 := { stood := { row := contextPushRow, standIns := [], harness := (true, "46aa05f56be56a1b772658bdc33647036ce547a3e09c91b15ae71837c0805ada"), looks := true }, kinds := [], alts := [], laidByText := true, laidKinds := [.data, .data, .data, .sentinel, .sentinel, .data, .data], laidTests := true, laidLooks := .later }
def ContextPushCardSaid : Prop := Claim7.holds Tryz.pinned (.plain (OpenSpec.ofChange contextPushSpec)) contextPushCard

/-- THE TIED CARD OF 'dataflowlaw22.ContextCalls'. -/
def contextCallsCard : Claim7 := { stood := { row := contextCallsRow, standIns := [], harness := (true, "46aa05f56be56a1b772658bdc33647036ce547a3e09c91b15ae71837c0805ada"), looks := true }, kinds := [], alts := [], laidByText := true, laidKinds := [.data, .data, .data, .sentinel, .sentinel, .data, .data], laidTests := true, laidLooks := .later }
def ContextCallsCardSaid : Prop := Claim7.holds Tryz.pinned (.plain (OpenSpec.ofChange contextCallsSpec)) contextCallsCard

/-- THE TIED CARD OF 'dataflowlaw22.ContextCompares'. -/
def contextComparesCard : Claim7 := { stood := { row := contextComparesRow, standIns := [], harness := (true, "46aa05f56be56a1b772658bdc33647036ce547a3e09c91b15ae71837c0805ada"), looks := true }, kinds := [], alts := [], laidByText := true, laidKinds := [.data, .data, .data, .sentinel, .sentinel, .data, .data], laidTests := true, laidLooks := .later }
def ContextComparesCardSaid : Prop := Claim7.holds Tryz.pinned (.plain (OpenSpec.ofChange contextComparesSpec)) contextComparesCard

/-- THE TIED CARD OF 'dataflowlaw22.ContextRemains'. -/
def contextRemainsCard : Claim7 := { stood := { row := contextRemainsRow, standIns := [], harness := (true, "46aa05f56be56a1b772658bdc33647036ce547a3e09c91b15ae71837c0805ada"), looks := true }, kinds := [], alts := [], laidByText := true, laidKinds := [.data, .data, .data, .sentinel, .sentinel, .data, .data], laidTests := true, laidLooks := .later }
def ContextRemainsCardSaid : Prop := Claim7.holds Tryz.pinned (.plain (OpenSpec.ofChange contextRemainsSpec)) contextRemainsCard

/-- THE TIED CARD OF 'dataflowlaw22.ContextOrder'. -/
def contextOrderCard : Claim7 := { stood := { row := contextOrderRow, standIns := [], harness := (true, "46aa05f56be56a1b772658bdc33647036ce547a3e09c91b15ae71837c0805ada"), looks := true }, kinds := [], alts := [], laidByText := true, laidKinds := [.data, .data, .data, .sentinel, .sentinel, .data, .data], laidTests := true, laidLooks := .later }
def ContextOrderCardSaid : Prop := Claim7.holds Tryz.pinned (.plain (OpenSpec.ofChange contextOrderSpec)) contextOrderCard

/-- THE SECOND FORM's CARD OF 'dataflowlaw12.LowerTemps'. -/
def lowerTempsUptoCard : Claim7 := { stood := { row := lowerTempsUptoRow, standIns := [], harness := (true, "46aa05f56be56a1b772658bdc33647036ce547a3e09c91b15ae71837c0805ada"), looks := true }, kinds := [], alts := [], laidByText := true, laidKinds := [.data, .data, .data, .data], laidTests := true, laidLooks := .later }
def LowerTempsUptoCardSaid : Prop := Claim7.holds Tryz.pinned (.plain (OpenSpec.upto lowerTempsSpec)) lowerTempsUptoCard

/-- THE SECOND FORM's CARD OF 'dataflowlaw12.LowerCatches'. -/
def lowerCatchesUptoCard : Claim7 := { stood := { row := lowerCatchesUptoRow, standIns := [], harness := (true, "46aa05f56be56a1b772658bdc33647036ce547a3e09c91b15ae71837c0805ada"), looks := true }, kinds := [], alts := [], laidByText := true, laidKinds := [.data, .data, .data, .data], laidTests := true, laidLooks := .later }
def LowerCatchesUptoCardSaid : Prop := Claim7.holds Tryz.pinned (.plain (OpenSpec.upto lowerCatchesSpec)) lowerCatchesUptoCard

/-- THE SECOND FORM's CARD OF 'dataflowlaw22.ContextPush'. -/
def contextPushUptoCard : Claim7 := { stood := { row := contextPushUptoRow, standIns := [], harness := (true, "46aa05f56be56a1b772658bdc33647036ce547a3e09c91b15ae71837c0805ada"), looks := true }, kinds := [], alts := [], laidByText := true, laidKinds := [.data, .data, .data, .sentinel, .sentinel, .data, .data], laidTests := true, laidLooks := .later }
def ContextPushUptoCardSaid : Prop := Claim7.holds Tryz.pinned (.plain (OpenSpec.upto contextPushSpec)) contextPushUptoCard

/-- THE SECOND FORM's CARD OF 'dataflowlaw22.ContextCalls'. -/
def contextCallsUptoCard : Claim7 := { stood := { row := contextCallsUptoRow, standIns := [], harness := (true, "46aa05f56be56a1b772658bdc33647036ce547a3e09c91b15ae71837c0805ada"), looks := true }, kinds := [], alts := [], laidByText := true, laidKinds := [.data, .data, .data, .sentinel, .sentinel, .data, .data], laidTests := true, laidLooks := .later }
def ContextCallsUptoCardSaid : Prop := Claim7.holds Tryz.pinned (.plain (OpenSpec.upto contextCallsSpec)) contextCallsUptoCard

/-- THE SECOND FORM's CARD OF 'dataflowlaw22.ContextCompares'. -/
def contextComparesUptoCard : Claim7 := { stood := { row := contextComparesUptoRow, standIns := [], harness := (true, "46aa05f56be56a1b772658bdc33647036ce547a3e09c91b15ae71837c0805ada"), looks := true }, kinds := [], alts := [], laidByText := true, laidKinds := [.data, .data, .data, .sentinel, .sentinel, .data, .data], laidTests := true, laidLooks := .later }
def ContextComparesUptoCardSaid : Prop := Claim7.holds Tryz.pinned (.plain (OpenSpec.upto contextComparesSpec)) contextComparesUptoCard

/-- THE SECOND FORM's CARD OF 'dataflowlaw22.ContextRemains'. -/
def contextRemainsUptoCard : Claim7 := { stood := { row := contextRemainsUptoRow, standIns := [], harness := (true, "46aa05f56be56a1b772658bdc33647036ce547a3e09c91b15ae71837c0805ada"), looks := true }, kinds := [], alts := [], laidByText := true, laidKinds := [.data, .data, .data, .sentinel, .sentinel, .data, .data], laidTests := true, laidLooks := .later }
def ContextRemainsUptoCardSaid : Prop := Claim7.holds Tryz.pinned (.plain (OpenSpec.upto contextRemainsSpec)) contextRemainsUptoCard

/-- THE SECOND FORM's CARD OF 'dataflowlaw22.ContextOrder'. -/
def contextOrderUptoCard : Claim7 := { stood := { row := contextOrderUptoRow, standIns := [], harness := (true, "46aa05f56be56a1b772658bdc33647036ce547a3e09c91b15ae71837c0805ada"), looks := true }, kinds := [], alts := [], laidByText := true, laidKinds := [.data, .data, .data, .sentinel, .sentinel, .data, .data], laidTests := true, laidLooks := .later }
def ContextOrderUptoCardSaid : Prop := Claim7.holds Tryz.pinned (.plain (OpenSpec.upto contextOrderSpec)) contextOrderUptoCard
end Rows
end Go.Proofs.YtdjllogimomgmaaGreatDoor
