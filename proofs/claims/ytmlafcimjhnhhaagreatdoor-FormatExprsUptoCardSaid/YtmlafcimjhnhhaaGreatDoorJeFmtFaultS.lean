/-
  format's faults of statements, walked (printed by genfault2.py).
-/
import Derived.Test.YtmlafcimjhnhhaaGreatDoorJeFmtFaultE
set_option linter.unusedSectionVars false
set_option linter.unusedSimpArgs false
set_option linter.unnecessarySimpa false
set_option linter.unusedVariables false
namespace Go.Proofs.YtmlafcimjhnhhaaGreatDoor
open Lx Go.RowKit
set_option linter.unusedSimpArgs false
end Go.Proofs.YtmlafcimjhnhhaaGreatDoor
