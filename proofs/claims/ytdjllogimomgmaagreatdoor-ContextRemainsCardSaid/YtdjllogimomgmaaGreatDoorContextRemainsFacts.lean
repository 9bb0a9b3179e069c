/-
  ContextRemains: the facts of the row.
-/
import Derived.Test.YtdjllogimomgmaaGreatDoorContextRemainsLift
namespace Go.Proofs.YtdjllogimomgmaaGreatDoor
open Ax Tx Go.RowKit
open Go.ChangeShapes Go.WideShapes Go.ChangeAt
open Go.ChangeMaps (open_string shut_string)
theorem contextRemains_closed : joinedFacts Tryz.pinned.checked.prog 8 Tryz.f8 Rows.contextRemainsSpec Rows.contextRemainsRow = true := by kernel_rfl
end Go.Proofs.YtdjllogimomgmaaGreatDoor
