/-
  (What stood here stands in XItems.)
-/
import Derived.Test.YtmlafcimjhnhhaaGreatDoorJeJpAr
import Derived.Test.YtmlafcimjhnhhaaGreatDoorJeJpBc
import Derived.Test.YtmlafcimjhnhhaaGreatDoorJeParDecl
import Derived.Deep.RegionHeld3
import Derived.Deep.DrawnRows
set_option linter.unusedSectionVars false
set_option linter.unusedSimpArgs false
set_option linter.unnecessarySimpa false
set_option linter.unusedVariables false
namespace Go.Proofs.YtmlafcimjhnhhaaGreatDoor
section
open Lx Go.RowKit
attribute [local go_sem ↓] Go.wp_at_zero Go.wp_at_succ
end
section
open Lx Go.RowKit
attribute [local go_sem ↓] Go.wp_at_zero Go.wp_at_succ
end
section
open Lx Go.RowKit
end
section
namespace Lx
section
variable {ts:List Tok}
def MeJ (j:Nat)(m:Me):Prop:=stsCount m.body≤j∧stsDepth m.body≤j
theorem MeJ.mono {j j':Nat}{m:Me}(h:MeJ j m)(hj:j≤j'):MeJ j' m:=⟨Nat.le_trans h.1 hj,Nat.le_trans h.2 hj⟩
end
end Lx
end
end Go.Proofs.YtmlafcimjhnhhaaGreatDoor
