/-
  FormatFixed: the printed form of every accepted text has the same tree, and is printed unchanged: the law returns true for every input; the listed variables are tied to the program's text.
-/
import Derived.Test.YtmlafcimjhnhhaaGreatDoorJfFormatFixedLaw
import Derived.Test.YtmlafcimjhnhhaaGreatDoorJfLaid
import Derived.Test.YtmlafcimjhnhhaaGreatDoorJfJpBq
import Derived.Test.YtmlafcimjhnhhaaGreatDoorTie
import Derived.Test.YtmlafcimjhnhhaaGreatDoorCards
import Derived.SevenTiedAt
import Derived.ShutString
namespace Go.Proofs.YtmlafcimjhnhhaaGreatDoor
open Lx Go.RowKit
open Go.ChangeShapes Go.WideShapes Go.ChangeAt
open Go.ChangeMaps (open_string shut_string)
theorem formatFixed_own:ownKnob Tryz.prog.godebug=none:=by kernel_rfl
theorem formatFixed_met (os:Os)(args:Array Value):laidMetH Tryz.prog Rows.formatFixedRow.laid ((World.doorLaid Tryz.prog 77 os).forCall (fun _ _=>0) ⟨#[],args,[]⟩).memory :=
 laidMetH_of_parts3 (fuel:=8) (laidMet_of_run' 8 (by kernel_rfl) (by kernel_rfl)) (by kernel_rfl) (by kernel_rfl)
theorem formatFixed_laid {W:World}(h:laidMetH Tryz.prog Rows.formatFixedRow.laid W):Laid W∧FLaid W:=by
 rw [MakeChecks.laidMetH_plain _ _ _ (by kernel_rfl)] at h;have hl:Laid W:=by
  refine Laid.of_met h ?_ ?_ ?_ ?_ <;> (unfold Rows.formatFixedRow;repeat (first | exact List.mem_cons_self | apply List.mem_cons_of_mem))
 refine⟨hl,FLaid.of_met h hl.kw ?_ ?_⟩ <;> (unfold Rows.formatFixedRow;repeat (first | exact List.mem_cons_self | apply List.mem_cons_of_mem))
set_option maxRecDepth 100000 in
theorem formatFixed_lifted (os:Os)(started:os.Started)(H:Type)(enc:TypeId×Value→H) :
  ReturnsInHanded {} Tryz.checked os 5 .any (fun w args=>(Rows.formatFixedSpec.pre enc Tryz.prog Tryz.f5 [] false w args∧laidMetH Tryz.prog Rows.formatFixedRow.laid w)∧sizedMet enc Tryz.prog Tryz.f5 (OpenSpec.ofChange Rows.formatFixedSpec) false w args)
   (Rows.formatFixedSpec.post enc Tryz.prog Tryz.f5 false true false false):=by
 refine returnsInHanded_of_change_and (C:=Tryz.checked) (X:=fun w _=>laidMetH Tryz.prog Rows.formatFixedRow.laid w) (fun _ _ _ hh h=>h.of_heap hh) formatFixed_own started (by kernel_rfl) Tryz.func5
  (ChangeSpec.witness_shaped (enc:=enc) (C:=Tryz.checked) (os:=os) (X:=fun w _=>laidMetH Tryz.prog Rows.formatFixedRow.laid w) false (World.doorLaid Tryz.prog 77 os) #[.string ByteArray.empty] 8 rfl (World.shaped_of_RefB (by kernel_rfl) (by kernel_rfl)) (by kernel_rfl) (by kernel_rfl) (by kernel_rfl) (formatFixed_met os _)) ?_
 intro W base args ds gs before hval0 hW _ _ hL _;have hval:∀ (j:Nat) t v,Tryz.f5.params[j]?=some t→args[j]?=some v→Value.okWide Tryz.prog W .any base t v:=hval0;have hW':=hW;obtain⟨p,q,hA0,hV,rfl,hfz,hnd⟩:=hW;have hA:DataW.TrodAll enc Tryz.prog W 0 (fun _=>true) true Tryz.f5.params.toList args.toList ds p:=hA0;rw [Tryz.params5] at hA hval;obtain⟨v0,d0,rfl,rfl,h0⟩:=trodAll_one hA;obtain⟨s0,rfl,rfl,rfl,hs0⟩:=open_string Tryz.underlying9 (hval 0 9 v0 rfl rfl) h0;obtain⟨rfl,rfl⟩:=trodVars_none hV;have hLaid:=formatFixed_laid hL;clear hA0 hval0;simp only [List.append_nil] at hW';refine (law_FormatFixed s0 W hs0 hLaid.1 hLaid.2).mono fun e W' ⟨he,hb⟩=>?_
 subst he;exact⟨_,rfl,_,_,_,[],[],[],hW',trodAll_mk1 (shut_bool Tryz.underlying4 _),trodAll_mk1 (shut_string Tryz.underlying9 hs0),rfl,hb.frame _,fun h=>by cases h⟩
theorem formatFixed_holds:Rows.FormatFixedSaid :=
 OpenClaim.holds_of_wide 5 Tryz.f5 rfl rfl rfl rfl rfl rfl rfl ⟨rfl,rfl,rfl,rfl,rfl⟩ rfl rfl rfl rfl rfl (by kernel_rfl) Tryz.func5 (by kernel_rfl)
  (of_decide_eq_true (by kernel_rfl)) (by unfold Func.isWrapper;first | (rw [if_pos (by decide +kernel)];kernel_rfl) | (rw [if_neg (by decide +kernel)];exact⟨rfl,rfl⟩))
  (fun os started H enc _=>formatFixed_lifted os started H enc)
theorem formatFixed_card:Rows.FormatFixedCardSaid :=
 Claim7.holds_tied_plain_at .later [] [.data,.data,.data,.sentinel,.sentinel,.data,.data,.data] true Rows.formatFixedCard.stood.harness true
  formatFixed_holds (fun _ h=>by cases h) (by kernel_rfl) (fun _ h=>by cases h) formatFixed_row_tie rfl ⟨rfl,rfl⟩ (by kernel_rfl) rfl
  (fun f fn hf hfn=>by
   obtain rfl:f=5:=Option.some.inj ((show Tryz.prog.funcNamed "dataflow/dataflowlaw09.FormatFixed"=some 5 by kernel_rfl).symm.trans hf) |>.symm
   obtain rfl:fn=Tryz.f5:=(Option.some.inj (Tryz.func5.symm.trans hfn)).symm;exact⟨by kernel_rfl,fun j t ht=>by
    rw [Tryz.params5] at ht;have hm:t∈[9]:=by simpa using Array.mem_of_getElem? ht
    have hall:([9].all fun u=>!Tryz.prog.wantsStandIn u)=true:=by kernel_rfl
    exact (show Tryz.prog.wantsStandIn t=false by simpa using List.all_eq_true.1 hall t hm)⟩)
  (by kernel_rfl)
#print axioms formatFixed_card
end Go.Proofs.YtmlafcimjhnhhaaGreatDoor
