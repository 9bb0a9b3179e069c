/-
  The rule stmt, walked (walks printed by genpar2.py).
-/
import Derived.Test.YtmlafcimjhnhhaaGreatDoorJeParStBase
import Derived.Deep.DrawnRows
set_option linter.unusedSectionVars false
set_option linter.unusedSimpArgs false
set_option linter.unnecessarySimpa false
set_option linter.unusedVariables false
namespace Go.Proofs.YtmlafcimjhnhhaaGreatDoor
section
open Lx Go.RowKit
attribute [local go_sem ↓] Go.wp_at_zero Go.wp_at_succ
section
variable {pb g cap:Nat} {ts:List Tok} {i:Nat} {w:World}
variable {B:Nat→PR (List St)} {f:Nat} (hB:Adv B)
set_option maxHeartbeats 4000000 in
include hB in
end
end
section
open Lx Go.RowKit
attribute [local go_sem ↓] Go.wp_at_zero Go.wp_at_succ
section
variable {pb g cap:Nat} {ts:List Tok} {i:Nat} {w:World}
variable {S:Nat→PR St} {f:Nat} (hS0:Adv S)
set_option maxHeartbeats 1000000 in
include hS0 in
end
section
variable {pb g cap:Nat} {ts:List Tok} (hT:TWF ts)
include hT
end
end
end Go.Proofs.YtmlafcimjhnhhaaGreatDoor
