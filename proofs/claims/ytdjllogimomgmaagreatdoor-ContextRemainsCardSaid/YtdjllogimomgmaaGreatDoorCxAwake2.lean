/-
  law22's closed example, its second half.
-/
import Derived.Test.YtdjllogimomgmaaGreatDoorCxAwake
set_option linter.unusedVariables false
namespace Go.Proofs.YtdjllogimomgmaaGreatDoor
open Ax Tx Go.RowKit
set_option maxRecDepth 1000000 in
theorem cx_lower : FCall1 Tryz.prog cxG 10 [cxSrc] cxUnit :=
  FCall1.run (runFS_sound (P := Tryz.prog) (G := cxG) (sp := cxSp) (lf := 1000) (fun c hc => cxSp_ok hc) 60) cxG_pu (by kernel_rfl) (by kernel_rfl) (by kernel_rfl)
noncomputable def cxSp2 (call : Call1) : Call1 := tabOne 41 [.str cxTxt] cxTree (tabOne 10 [cxSrc] cxUnit (cxSp call))
theorem cxSp2_ok {call : Call1} (hc : CallOk Tryz.prog cxG call) : CallOk Tryz.prog cxG (cxSp2 call) := tabOne_ok cx_parse (tabOne_ok cx_lower (cxSp_ok hc))
set_option maxRecDepth 1000000 in
theorem cx_awake1 : FCall1 Tryz.prog cxG 18 [] (.bool true) :=
  FCall1.run (runFS_sound (P := Tryz.prog) (G := cxG) (sp := cxSp2) (lf := 1000) (fun c hc => cxSp2_ok hc) 60) cxG_pu rfl (by kernel_rfl) (by kernel_rfl)
theorem awake22_ok : FCall Tryz.prog cxG 18 [] (fun r => r = .ret (.bool true)) := cx_awake1.f
end Go.Proofs.YtdjllogimomgmaaGreatDoor
