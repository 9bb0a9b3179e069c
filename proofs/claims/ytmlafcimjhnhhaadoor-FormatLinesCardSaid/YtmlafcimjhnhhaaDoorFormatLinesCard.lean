/-
  FormatLines: every line of a source's text is indented by one tab for each block around it: the law returns true for every input; the listed variables are tied to the program's text.
-/
import Derived.Test.YtmlafcimjhnhhaaDoorJlFormatLinesLaw
import Derived.Test.YtmlafcimjhnhhaaDoorJlLaid
import Derived.Test.YtmlafcimjhnhhaaDoorJlJpBc
import Derived.Test.YtmlafcimjhnhhaaDoorJlJpBh
import Derived.Test.YtmlafcimjhnhhaaDoorJlJpAt
import Derived.Test.YtmlafcimjhnhhaaDoorTie
import Derived.Test.YtmlafcimjhnhhaaDoorCards
import Derived.SevenTiedAt
import Derived.ShutString
namespace Go.Proofs.YtmlafcimjhnhhaaDoor
open Lx Go.RowKit
open Go.ChangeShapes Go.WideShapes Go.ChangeAt
open Go.ChangeMaps (open_string shut_string)
theorem formatLines_own:ownKnob Tryd.prog.godebug=none:=by kernel_rfl
theorem formatLines_met (os:Os)(args:Array Value):laidMetH Tryd.prog Rows.formatLinesRow.laid ((World.doorLaid Tryd.prog 34 os).forCall (fun _ _=>0) ⟨#[],args,[]⟩).memory :=
 laidMetH_of_parts3 (fuel:=8) (laidMet_of_run' 8 (by kernel_rfl) (by kernel_rfl)) (by kernel_rfl) (by kernel_rfl)
theorem formatLines_laid {W:World}(h:laidMetH Tryd.prog Rows.formatLinesRow.laid W):FLaid W:=by
 rw [MakeChecks.laidMetH_plain _ _ _ (by kernel_rfl)] at h;refine FLaid.of_met h (KwIs.of_met h ?_) ?_ ?_ <;> (unfold Rows.formatLinesRow;repeat (first | exact List.mem_cons_self | apply List.mem_cons_of_mem))
set_option maxRecDepth 100000 in
theorem formatLines_lifted (os:Os)(started:os.Started)(H:Type)(enc:TypeId×Value→H) :
  ReturnsInHanded {} Tryd.checked os 4 .any (fun w args=>(Rows.formatLinesSpec.pre enc Tryd.prog Tryd.f4 [] false w args∧laidMetH Tryd.prog Rows.formatLinesRow.laid w)∧sizedMet enc Tryd.prog Tryd.f4 (OpenSpec.ofChange Rows.formatLinesSpec) false w args)
   (Rows.formatLinesSpec.post enc Tryd.prog Tryd.f4 false true false false):=by
 refine returnsInHanded_of_change_and (C:=Tryd.checked) (X:=fun w _=>laidMetH Tryd.prog Rows.formatLinesRow.laid w) (fun _ _ _ hh h=>h.of_heap hh) formatLines_own started (by kernel_rfl) Tryd.func4
  (ChangeSpec.witness_shaped (enc:=enc) (C:=Tryd.checked) (os:=os) (X:=fun w _=>laidMetH Tryd.prog Rows.formatLinesRow.laid w) false (World.doorLaid Tryd.prog 34 os) #[.agg #[.slice none 0 0]] 8 rfl (World.shaped_of_RefB (by kernel_rfl) (by kernel_rfl)) (by kernel_rfl) (by kernel_rfl) (by kernel_rfl) (formatLines_met os _)) ?_
 intro W base args ds gs before hval0 hW _ _ hL _;have hval:∀ (j:Nat) t v,Tryd.f4.params[j]?=some t→args[j]?=some v→Value.okWide Tryd.prog W .any base t v:=hval0;have hW':=hW;obtain⟨p,q,hA0,hV,rfl,hfz,hnd⟩:=hW;have hA:DataW.TrodAll enc Tryd.prog W 0 (fun _=>true) true Tryd.f4.params.toList args.toList ds p:=hA0;rw [Tryd.params4] at hA hval;obtain⟨v0,d0,rfl,rfl,h0⟩:=trodAll_one hA;obtain⟨a0,n0,c0,l0,k0,rfl,hl0,hz0⟩:=open_so (hval 0 24 v0 rfl rfl) h0;obtain⟨rfl,rfl⟩:=trodVars_none hV;have hLaid:=formatLines_laid hL;clear hA0 hval0;simp only [List.append_nil] at hW';refine (law_FormatLines k0 l0 a0 n0 c0 W hl0 hz0 hLaid).mono fun e W' ⟨he,hb⟩=>?_
 subst he;exact⟨_,rfl,_,_,_,[],_,[],hW',trodAll_mk1 (shut_bool Tryd.underlying4 _),stays_all hb (by decide) hA,rfl,hb.frame _,fun h=>by cases h⟩
theorem formatLines_holds:Rows.FormatLinesSaid :=
 OpenClaim.holds_of_wide 4 Tryd.f4 rfl rfl rfl rfl rfl rfl rfl ⟨rfl,rfl,rfl,rfl,rfl⟩ rfl rfl rfl rfl rfl (by kernel_rfl) Tryd.func4 (by kernel_rfl)
  (of_decide_eq_true (by kernel_rfl)) (by unfold Func.isWrapper;first | (rw [if_pos (by decide +kernel)];kernel_rfl) | (rw [if_neg (by decide +kernel)];exact⟨rfl,rfl⟩))
  (fun os started H enc _=>formatLines_lifted os started H enc)
theorem formatLines_card:Rows.FormatLinesCardSaid :=
 Claim7.holds_tied_plain_at .later [] [.data,.data,.data,.data,.data] true Rows.formatLinesCard.stood.harness false
  formatLines_holds (fun _ h=>by cases h) (by kernel_rfl) (fun _ h=>by cases h) formatLines_row_tie rfl ⟨rfl,rfl⟩ (by kernel_rfl) rfl
  (fun f fn hf hfn=>by
   obtain rfl:f=4:=Option.some.inj ((show Tryd.prog.funcNamed "dataflow/dataflowlaw09.FormatLines"=some 4 by kernel_rfl).symm.trans hf) |>.symm
   obtain rfl:fn=Tryd.f4:=(Option.some.inj (Tryd.func4.symm.trans hfn)).symm;exact⟨by kernel_rfl,fun j t ht=>by
    rw [Tryd.params4] at ht;have hm:t∈[24]:=by simpa using Array.mem_of_getElem? ht
    have hall:([24].all fun u=>!Tryd.prog.wantsStandIn u)=true:=by kernel_rfl
    exact (show Tryd.prog.wantsStandIn t=false by simpa using List.all_eq_true.1 hall t hm)⟩)
  (by kernel_rfl)
#print axioms formatLines_card
end Go.Proofs.YtmlafcimjhnhhaaDoor
