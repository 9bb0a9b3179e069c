/-
  ContextRemains: a smaller sensitivity keeps what remains of the contexts of a greater one: the law returns true for every input; the listed variables are tied to the program's text.
-/
import Derived.Test.YtdjllogimomgmaaGreatDoorContextRemainsHolds
import Derived.Test.YtdjllogimomgmaaGreatDoorTie
import Derived.Test.YtdjllogimomgmaaGreatDoorCards
import Derived.SevenTiedAt
import Derived.ShutString
namespace Go.Proofs.YtdjllogimomgmaaGreatDoor
open Ax Tx Go.RowKit
open Go.ChangeShapes Go.WideShapes Go.ChangeAt
open Go.ChangeMaps (open_string shut_string)
theorem contextRemains_card : Rows.ContextRemainsCardSaid :=
  Claim7.holds_tied_plain_at .later [] [.data, .data, .data, .sentinel, .sentinel, .data, .data] true Rows.contextRemainsCard.stood.harness true
    contextRemains_holds (fun _ h => by cases h) (by kernel_rfl) (fun _ h => by cases h) contextRemains_row_tie rfl ⟨rfl, rfl⟩ (by kernel_rfl) rfl
    (fun f fn hf hfn => by
      obtain rfl : f = 8 := Option.some.inj ((show Tryz.prog.funcNamed "dataflow/dataflowlaw22.ContextRemains" = some 8 by kernel_rfl).symm.trans hf) |>.symm
      obtain rfl : fn = Tryz.f8 := (Option.some.inj (Tryz.func8.symm.trans hfn)).symm
      exact ⟨by kernel_rfl, fun j t ht => by
        rw [Tryz.params8] at ht
        have hm : t ∈ [30, 55, 59] := by simpa using Array.mem_of_getElem? ht
        have hall : ([30, 55, 59].all fun u => !Tryz.prog.wantsStandIn u) = true := by kernel_rfl
        exact (show Tryz.prog.wantsStandIn t = false by simpa using List.all_eq_true.1 hall t hm)⟩)
    (by kernel_rfl)
#print axioms contextRemains_card
end Go.Proofs.YtdjllogimomgmaaGreatDoor
