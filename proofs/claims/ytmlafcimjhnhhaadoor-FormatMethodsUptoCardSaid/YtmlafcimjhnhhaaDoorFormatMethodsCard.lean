/-
  FormatMethods: a method's text, or the error, is as the chapter says: the law returns true for every input of bulk at most 1048576; the listed variables are tied to the program's text.
-/
import Derived.Test.YtmlafcimjhnhhaaDoorJmFormatMethodsLaw
import Derived.Test.YtmlafcimjhnhhaaDoorJmJpBj
import Derived.Test.YtmlafcimjhnhhaaDoorJmJpAs
import Derived.Test.YtmlafcimjhnhhaaDoorJmTrodBulk
import Derived.Test.YtmlafcimjhnhhaaDoorTie
import Derived.Test.YtmlafcimjhnhhaaDoorCards
import Derived.SevenTiedAt
import Derived.ShutString
import Derived.JoinedCond
import Derived.Deep.DeepHandedRow
namespace Go.Proofs.YtmlafcimjhnhhaaDoor
open Lx Go.RowKit
open Go.ChangeShapes Go.WideShapes Go.ChangeAt
theorem formatMethods_own:ownKnob Tryd.prog.godebug=none:=by kernel_rfl
theorem formatMethods_met (os:Os)(args:Array Value):laidMetH Tryd.prog Rows.formatMethodsUptoRow.laid ((World.doorLaid Tryd.prog 34 os).forCall (fun _ _=>0) ⟨#[],args,[]⟩).memory :=
 laidMetH_of_parts3 (fuel:=8) (laidMet_of_run' 8 (by kernel_rfl) (by kernel_rfl)) (by kernel_rfl) (by kernel_rfl)
theorem formatMethods_laid {W:World}(h:laidMetH Tryd.prog Rows.formatMethodsUptoRow.laid W):FLaid W:=by
 rw [MakeChecks.laidMetH_plain _ _ _ (by kernel_rfl)] at h;refine FLaid.of_met h (KwIs.of_met h ?_) ?_ ?_ <;> (unfold Rows.formatMethodsUptoRow;repeat (first | exact List.mem_cons_self | apply List.mem_cons_of_mem))
set_option maxRecDepth 100000 in
theorem formatMethods_contract (H:Type)(enc:TypeId×Value→H)(W:World)(base:Nat)(args:Array Value)(ds gs:List (DataW H))(before:List MemPlace)
  (hval0:∀ (j:Nat) t v,Tryd.f5.params[j]?=some t→args[j]?=some v→Value.okWide Tryd.prog W .any base t v)
  (hW:DataW.Whole enc Tryd.prog Tryd.f5.params.toList Rows.formatMethodsSpec.vars false W args.toList ds gs before) (hk:Rows.uptoSmall H (ds++gs)=true) (hL:laidMetH Tryd.prog Rows.formatMethodsUptoRow.laid W) :
  Calls Tryd.prog 5 args W fun e W'=>∃ v,e=.returned v∧Rows.formatMethodsSpec.post enc Tryd.prog Tryd.f5 false true false false W args v W':=by
 have hval:∀ (j:Nat) t v,Tryd.f5.params[j]?=some t→args[j]?=some v→Value.okWide Tryd.prog W .any base t v:=hval0;have hW':=hW;obtain⟨p,q,hA0,hV,rfl,hfz,hnd⟩:=hW;have hA:DataW.TrodAll enc Tryd.prog W 0 (fun _=>true) true Tryd.f5.params.toList args.toList ds p:=hA0;rw [Tryd.params5] at hA hval;obtain⟨v0,d0,rfl,rfl,h0⟩:=trodAll_one hA;obtain⟨nm,sb,a1,n1,c1,rs,a2,n2,c2,m0,k0,rfl,hl0,hz0,hb0⟩:=openB_me (hval 0 41 v0 rfl rfl) h0;obtain⟨rfl,rfl⟩:=trodVars_none hV;have hLaid:=formatMethods_laid hL;have hs:Rows.uptoBulkAll [d0]≤1048576:=of_decide_eq_true hk;simp only [Rows.uptoBulkAll,Nat.add_zero] at hs;clear hA0 hval0 hk;simp only [List.append_nil] at hW';refine (law_FormatMethods k0 m0 nm sb a1 n1 c1 rs a2 n2 c2 W hl0 hz0 (by omega) hLaid).mono fun e W' ⟨he,hb⟩=>?_
 subst he;exact⟨_,rfl,_,_,_,[],_,[],hW',trodAll_mk1 (shut_bool Tryd.underlying4 _),stays_all hb (by decide) hA,rfl,hb.frame _,fun h=>by cases h⟩
theorem formatMethods_okB (os:Os):Input.okWideB Tryd.prog ((World.doorLaid Tryd.prog 34 os).forCall (fun _ _=>0) ⟨#[],#[.agg #[.string ByteArray.empty,.bool false,.slice none 0 0,.string ByteArray.empty,.slice none 0 0]],[]⟩) 5 ⟨#[],#[.agg #[.string ByteArray.empty,.bool false,.slice none 0 0,.string ByteArray.empty,.slice none 0 0]],[]⟩=true:=by kernel_rfl
theorem formatMethods_reads (os:Os){H:Type}(enc:TypeId×Value→H):∃ places,DataW.whole enc Tryd.prog ((World.doorLaid Tryd.prog 34 os).forCall (fun _ _=>0) ⟨#[],#[.agg #[.string ByteArray.empty,.bool false,.slice none 0 0,.string ByteArray.empty,.slice none 0 0]],[]⟩).memory Tryd.f5.params.toList Rows.formatMethodsSpec.vars false #[(.agg #[.string ByteArray.empty,.bool false,.slice none 0 0,.string ByteArray.empty,.slice none 0 0]:Value)].toList 8=some ([.agg [.lit (.string []),.lit (.bool false),.nil,.lit (.string []),.nil]],[],places) :=
 ⟨[],by kernel_rfl⟩
set_option maxRecDepth 100000 in
theorem formatMethods_lifted (os:Os)(started:os.Started)(H:Type)(enc:TypeId×Value→H)(F:Stop.Interp) :
  ReturnsInHanded {} Tryd.checked os 5 .any ((Rows.OpenSpec.upto Rows.formatMethodsSpec).preRow enc Tryd.prog Tryd.f5 Rows.formatMethodsUptoRow.domain false Rows.formatMethodsUptoRow.laid) (((Rows.OpenSpec.upto Rows.formatMethodsSpec).at F).post enc Tryd.prog Tryd.f5 false true false false):=by
 obtain⟨places,hx⟩:=formatMethods_reads os enc;refine returnsInHanded_of_row (C:=Tryd.checked) (s:=Rows.OpenSpec.upto Rows.formatMethodsSpec) formatMethods_own started (by kernel_rfl) Tryd.func5
  ⟨World.doorLaid Tryd.prog 34 os,fun _ _=>0,⟨#[],#[.agg #[.string ByteArray.empty,.bool false,.slice none 0 0,.string ByteArray.empty,.slice none 0 0]],[]⟩,rfl,World.shaped_of_RefB (by kernel_rfl) (by kernel_rfl),(Input.okWide_of_okWideB (base:=0) (formatMethods_okB os)).1,(Input.okWide_of_okWideB (formatMethods_okB os)).2,
   OpenSpec.preRow_of_cond 8 hx (by kernel_rfl) (fun k hk=>by cases hk;kernel_rfl) (by kernel_rfl) (formatMethods_met os _),by
    simp only [Assume.holds];exact⟨by simp,by simp,fun _=>Modest.zero,by simp,by simp⟩⟩ ?_
 intro W base args ds gs before hval hW _ hcond _ hL _ _;exact formatMethods_contract H enc W base args ds gs before hval hW (hcond _ rfl) hL
theorem formatMethods_holds:Rows.FormatMethodsUptoSaid :=
 OpenClaim.holds_of_cond 5 Tryd.f5 rfl rfl rfl rfl rfl rfl rfl ⟨rfl,rfl,rfl,rfl,rfl⟩ rfl rfl rfl rfl rfl (by kernel_rfl) Tryd.func5 (by kernel_rfl)
  (of_decide_eq_true (by kernel_rfl)) (by unfold Func.isWrapper;first | (rw [if_pos (by decide +kernel)];kernel_rfl) | (rw [if_neg (by decide +kernel)];exact⟨rfl,rfl⟩))
  (fun os started H enc _ F=>by rw [OpenClaim.pre_eq_preRow];exact formatMethods_lifted os started H enc F)
theorem formatMethods_card:Rows.FormatMethodsUptoCardSaid :=
 Claim7.holds_tied_plain_at .later [] [.data,.data,.data,.data,.data] true Rows.formatMethodsUptoCard.stood.harness false
  formatMethods_holds (fun _ h=>by cases h) (by kernel_rfl) (fun _ h=>by cases h) formatMethodsUpto_row_tie rfl ⟨rfl,rfl⟩ (by kernel_rfl) rfl
  (fun f fn hf hfn=>by
   obtain rfl:f=5:=Option.some.inj ((show Tryd.prog.funcNamed "dataflow/dataflowlaw09.FormatMethods"=some 5 by kernel_rfl).symm.trans hf) |>.symm
   obtain rfl:fn=Tryd.f5:=(Option.some.inj (Tryd.func5.symm.trans hfn)).symm;exact⟨by kernel_rfl,fun j t ht=>by
    rw [Tryd.params5] at ht;have hm:t∈[41]:=by simpa using Array.mem_of_getElem? ht
    have hall:([41].all fun u=>!Tryd.prog.wantsStandIn u)=true:=by kernel_rfl
    exact (show Tryd.prog.wantsStandIn t=false by simpa using List.all_eq_true.1 hall t hm)⟩)
  (by kernel_rfl)
#print axioms formatMethods_card
end Go.Proofs.YtmlafcimjhnhhaaDoor
