/-
  The rules field and method, walked (walks printed by genpar2.py).
-/
import Derived.Test.YtmlafcimjhnhhaaGreatDoorJeParStmt
import Derived.Deep.DrawnRows
import Derived.Deep.RegionLaw
set_option linter.unusedSectionVars false
set_option linter.unusedSimpArgs false
set_option linter.unnecessarySimpa false
set_option linter.unusedVariables false
namespace Go.Proofs.YtmlafcimjhnhhaaGreatDoor
section
open Lx Go.RowKit
attribute [local go_sem ↓] Go.wp_at_zero Go.wp_at_succ
theorem fFlatFld.snoc {A:Nat→Prop}{w:World}{l:List Fld}{xs:List Value}{e:Fld}(h:(fFlatFld l xs).holds A w):(fFlatFld (l++[e]) (xs++[.string (strOf e.name),.string (strOf e.typ)])).holds A w:=Flat.snoc h rfl rfl
section
variable {pb g cap:Nat} {ts:List Tok} {i:Nat} {w:World}
end
end
section
open Lx Go.RowKit
attribute [local go_sem ↓] Go.wp_at_zero Go.wp_at_succ
section
variable {pb g cap:Nat} {ts:List Tok} {i:Nat} {w:World}
end
end
end Go.Proofs.YtmlafcimjhnhhaaGreatDoor
