/-
  LowerCatches, walked: for every source of moderate size.
-/
import Derived.Test.YtoookjadbhdfhaaGreatDoorUJpBm
set_option linter.unusedSectionVars false
set_option linter.unusedSimpArgs false
set_option linter.unnecessarySimpa false
set_option linter.unusedVariables false
namespace Go.Proofs.YtoookjadbhdfhaaGreatDoor
open Lx Ax Go.RowKit
theorem law_LowerCatches (d:Nat)(x:List Cl)(a:Option Addr)(n c:Nat)(w:World)(h:IsList Any w 4 (IsCl Any w d) x (.slice a n c))(hB:∀ c∈x,ClB d c)(hs:clsSz x≤2000000)(hK:LLaid w) :
  Calls Tryz.prog 4 #[.agg #[.slice a n c]] w fun e w'=>e=.returned (.bool true)∧Below w.heap.size w w':=ll_law la_Catches d x a n c w h hB hs hK
end Go.Proofs.YtoookjadbhdfhaaGreatDoor
