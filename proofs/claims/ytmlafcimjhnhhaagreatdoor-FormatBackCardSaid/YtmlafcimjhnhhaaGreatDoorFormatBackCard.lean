/-
  FormatBack: the text of a source is parsed as the same source: the law returns true for every input; the listed variables are tied to the program's text.
-/
import Derived.Test.YtmlafcimjhnhhaaGreatDoorJbFormatBackLaw
import Derived.Test.YtmlafcimjhnhhaaGreatDoorJbLaid
import Derived.Test.YtmlafcimjhnhhaaGreatDoorJbJpBl
import Derived.Test.YtmlafcimjhnhhaaGreatDoorJbJpBq
import Derived.Test.YtmlafcimjhnhhaaGreatDoorTie
import Derived.Test.YtmlafcimjhnhhaaGreatDoorCards
import Derived.SevenTiedAt
import Derived.ShutString
namespace Go.Proofs.YtmlafcimjhnhhaaGreatDoor
open Lx Go.RowKit
open Go.ChangeShapes Go.WideShapes Go.ChangeAt
open Go.ChangeMaps (open_string shut_string)
theorem formatBack_own:ownKnob Tryz.prog.godebug=none:=by kernel_rfl
theorem formatBack_met (os:Os)(args:Array Value):laidMetH Tryz.prog Rows.formatBackRow.laid ((World.doorLaid Tryz.prog 77 os).forCall (fun _ _=>0) ⟨#[],args,[]⟩).memory :=
 laidMetH_of_parts3 (fuel:=8) (laidMet_of_run' 8 (by kernel_rfl) (by kernel_rfl)) (by kernel_rfl) (by kernel_rfl)
theorem formatBack_laid {W:World}(h:laidMetH Tryz.prog Rows.formatBackRow.laid W):Laid W∧FLaid W:=by
 rw [MakeChecks.laidMetH_plain _ _ _ (by kernel_rfl)] at h;have hl:Laid W:=by
  refine Laid.of_met h ?_ ?_ ?_ ?_ <;> (unfold Rows.formatBackRow;repeat (first | exact List.mem_cons_self | apply List.mem_cons_of_mem))
 refine⟨hl,FLaid.of_met h hl.kw ?_ ?_⟩ <;> (unfold Rows.formatBackRow;repeat (first | exact List.mem_cons_self | apply List.mem_cons_of_mem))
set_option maxRecDepth 100000 in
theorem formatBack_lifted (os:Os)(started:os.Started)(H:Type)(enc:TypeId×Value→H) :
  ReturnsInHanded {} Tryz.checked os 4 .any (fun w args=>(Rows.formatBackSpec.pre enc Tryz.prog Tryz.f4 [] false w args∧laidMetH Tryz.prog Rows.formatBackRow.laid w)∧sizedMet enc Tryz.prog Tryz.f4 (OpenSpec.ofChange Rows.formatBackSpec) false w args)
   (Rows.formatBackSpec.post enc Tryz.prog Tryz.f4 false true false false):=by
 refine returnsInHanded_of_change_and (C:=Tryz.checked) (X:=fun w _=>laidMetH Tryz.prog Rows.formatBackRow.laid w) (fun _ _ _ hh h=>h.of_heap hh) formatBack_own started (by kernel_rfl) Tryz.func4
  (ChangeSpec.witness_shaped (enc:=enc) (C:=Tryz.checked) (os:=os) (X:=fun w _=>laidMetH Tryz.prog Rows.formatBackRow.laid w) false (World.doorLaid Tryz.prog 77 os) #[.agg #[.slice none 0 0]] 8 rfl (World.shaped_of_RefB (by kernel_rfl) (by kernel_rfl)) (by kernel_rfl) (by kernel_rfl) (by kernel_rfl) (formatBack_met os _)) ?_
 intro W base args ds gs before hval0 hW _ _ hL _;have hval:∀ (j:Nat) t v,Tryz.f4.params[j]?=some t→args[j]?=some v→Value.okWide Tryz.prog W .any base t v:=hval0;have hW':=hW;obtain⟨p,q,hA0,hV,rfl,hfz,hnd⟩:=hW;have hA:DataW.TrodAll enc Tryz.prog W 0 (fun _=>true) true Tryz.f4.params.toList args.toList ds p:=hA0;rw [Tryz.params4] at hA hval;obtain⟨v0,d0,rfl,rfl,h0⟩:=trodAll_one hA;obtain⟨a0,n0,c0,l0,k0,rfl,hl0,hz0⟩:=open_so (hval 0 35 v0 rfl rfl) h0;obtain⟨rfl,rfl⟩:=trodVars_none hV;have hLaid:=formatBack_laid hL;clear hA0 hval0;simp only [List.append_nil] at hW';refine (law_FormatBack k0 l0 a0 n0 c0 W hl0 hz0 hLaid.1 hLaid.2).mono fun e W' ⟨he,hb⟩=>?_
 subst he;exact⟨_,rfl,_,_,_,[],_,[],hW',trodAll_mk1 (shut_bool Tryz.underlying4 _),stays_all hb (by decide) hA,rfl,hb.frame _,fun h=>by cases h⟩
theorem formatBack_holds:Rows.FormatBackSaid :=
 OpenClaim.holds_of_wide 4 Tryz.f4 rfl rfl rfl rfl rfl rfl rfl ⟨rfl,rfl,rfl,rfl,rfl⟩ rfl rfl rfl rfl rfl (by kernel_rfl) Tryz.func4 (by kernel_rfl)
  (of_decide_eq_true (by kernel_rfl)) (by unfold Func.isWrapper;first | (rw [if_pos (by decide +kernel)];kernel_rfl) | (rw [if_neg (by decide +kernel)];exact⟨rfl,rfl⟩))
  (fun os started H enc _=>formatBack_lifted os started H enc)
theorem formatBack_card:Rows.FormatBackCardSaid :=
 Claim7.holds_tied_plain_at .later [] [.data,.data,.data,.sentinel,.sentinel,.data,.data,.data] true Rows.formatBackCard.stood.harness true
  formatBack_holds (fun _ h=>by cases h) (by kernel_rfl) (fun _ h=>by cases h) formatBack_row_tie rfl ⟨rfl,rfl⟩ (by kernel_rfl) rfl
  (fun f fn hf hfn=>by
   obtain rfl:f=4:=Option.some.inj ((show Tryz.prog.funcNamed "dataflow/dataflowlaw09.FormatBack"=some 4 by kernel_rfl).symm.trans hf) |>.symm
   obtain rfl:fn=Tryz.f4:=(Option.some.inj (Tryz.func4.symm.trans hfn)).symm;exact⟨by kernel_rfl,fun j t ht=>by
    rw [Tryz.params4] at ht;have hm:t∈[35]:=by simpa using Array.mem_of_getElem? ht
    have hall:([35].all fun u=>!Tryz.prog.wantsStandIn u)=true:=by kernel_rfl
    exact (show Tryz.prog.wantsStandIn t=false by simpa using List.all_eq_true.1 hall t hm)⟩)
  (by kernel_rfl)
#print axioms formatBack_card
end Go.Proofs.YtmlafcimjhnhhaaGreatDoor
