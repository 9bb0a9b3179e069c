/-
  The law ContextPush.
-/
import Derived.Test.YtdjllogimomgmaaGreatDoorJkM
import Derived.Test.YtdjllogimomgmaaGreatDoorCxAwake2
set_option linter.unusedSimpArgs false
set_option linter.unusedVariables false
namespace Go.Proofs.YtdjllogimomgmaaGreatDoor
open Ax Tx
theorem ti_Ca : ti Tryz.prog 59 = some ⟨.struct #[⟨ "Ctx", 49, 0, false, "", "", 0⟩, ⟨ "Call", 3, 1, false, "", "", 24⟩, ⟨ "Recv", 57, 2, false, "", "", 32⟩], 4, .agg #[.slice none 0 0, .int .i64 0, .int .i64 0, .slice none 0 0], 64⟩ := by kernel_rfl
end Go.Proofs.YtdjllogimomgmaaGreatDoor
namespace Go.Proofs.YtdjllogimomgmaaGreatDoor
open Ax Tx Go.RowKit
attribute [local simp] stepS Ax.stepT Dl.on qstep astep estep rd putE over argE ofV ofS loadA pickCells isAggD faddA fieldA partA iaddA idxA sliA bnd binA intA strA unA convA bltA lenA mapOf lookA findK keyD scalD storeA mupA appA srcA srcD upd drp Dl.hp Dl.nx CV.cs CV.one buildA placesA fillA zrep tasA ifaceD eqA eqFs eqIs range2 copyA nbeq nble nblt decEq beqI bneI beqS bneS isED Int.ofNat_inj List.getElem?_map List.getElem?_eq_getElem Option.map_some ti_int ti_bool ti_str ti_i64 ti_Strs ti_Hi ti_Cds ti_Cd ti_Flds ti_Fld ti_Sgs ti_Sg ti_Ins ti_Inss ti_Ints ti_Fu ti_Fus ti_Un ti_Se ti_Hs ti_Sits ti_Sit ti_Ca gd gdB callA resA op1
theorem sameInts_one (a : List Int) (ha : a.length ≤ 1000) : FCall1 Tryz.prog cxG 21 [.lst (a.map cvI), .lst (a.map cvI)] (.bool true) := by
  have h := sameInts_ok a a (by simp only [maxLen]; omega)
  rw [decide_eq_true rfl] at h
  exact h.one cxG_pu (by simp [puL, puV, puIs]) rfl
theorem pu_SeL (s : Se) : puL (cvSe s) = true := rfl
theorem pu_UnL (u : Un) : puL (cvUn u) = true := by simp [cvUn, puV, puL, puR_mapR puL_Cd, puR_mapR puL_Fu]
theorem lastL_len (l : List Int) (k : Nat) : (lastL l k).length ≤ l.length := by unfold lastL; rw [List.length_drop]; omega
end Go.Proofs.YtdjllogimomgmaaGreatDoor
