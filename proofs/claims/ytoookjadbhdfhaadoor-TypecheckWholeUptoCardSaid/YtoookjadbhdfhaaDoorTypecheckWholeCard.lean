/-
  TypecheckWhole: a program that the checker accepts is of the right kinds: the law returns true for every input of bulk at most 1048576; the listed variables are tied to the program's text.
-/
import Derived.Test.YtoookjadbhdfhaaDoorTTypecheckWholeLaw
import Derived.Test.YtoookjadbhdfhaaDoorTJpAu
import Derived.Test.YtoookjadbhdfhaaDoorTJpBq
import Derived.Test.YtoookjadbhdfhaaDoorTie
import Derived.Test.YtoookjadbhdfhaaDoorCards
import Derived.SevenTiedAt
import Derived.ShutString
import Derived.JoinedCond
import Derived.Deep.DeepHandedRow
namespace Go.Proofs.YtoookjadbhdfhaaDoor
open Lx Go.RowKit
open Go.ChangeShapes Go.WideShapes Go.ChangeAt
theorem typecheckWhole_own:ownKnob Tryd.prog.godebug=none:=by kernel_rfl
theorem typecheckWhole_met (os:Os)(args:Array Value):laidMetH Tryd.prog Rows.typecheckWholeUptoRow.laid ((World.doorLaid Tryd.prog 14 os).forCall (fun _ _=>0) ⟨#[],args,[]⟩).memory :=
 laidMetH_of_parts3 (fuel:=8) (laidMet_of_run' 8 (by kernel_rfl) (by kernel_rfl)) (by kernel_rfl) (by kernel_rfl)
theorem typecheckWhole_laid {W:World}(h:laidMetH Tryd.prog Rows.typecheckWholeUptoRow.laid W):KwIs W:=by
 rw [MakeChecks.laidMetH_plain _ _ _ (by kernel_rfl)] at h;refine KwIs.of_met h ?_
 (unfold Rows.typecheckWholeUptoRow;repeat (first | exact List.mem_cons_self | apply List.mem_cons_of_mem))
set_option maxRecDepth 100000 in
theorem typecheckWhole_contract (H:Type)(enc:TypeId×Value→H)(W:World)(base:Nat)(args:Array Value)(ds gs:List (DataW H))(before:List MemPlace)
  (hval0:∀ (j:Nat) t v,Tryd.f3.params[j]?=some t→args[j]?=some v→Value.okWide Tryd.prog W .any base t v)
  (hW:DataW.Whole enc Tryd.prog Tryd.f3.params.toList Rows.typecheckWholeSpec.vars false W args.toList ds gs before) (hk:Rows.uptoSmall H (ds++gs)=true) (hL:laidMetH Tryd.prog Rows.typecheckWholeUptoRow.laid W) :
  Calls Tryd.prog 3 args W fun e W'=>∃ v,e=.returned v∧Rows.typecheckWholeSpec.post enc Tryd.prog Tryd.f3 false true false false W args v W':=by
 have hval:∀ (j:Nat) t v,Tryd.f3.params[j]?=some t→args[j]?=some v→Value.okWide Tryd.prog W .any base t v:=hval0;have hW':=hW;obtain⟨p,q,hA0,hV,rfl,hfz,hnd⟩:=hW;have hA:DataW.TrodAll enc Tryd.prog W 0 (fun _=>true) true Tryd.f3.params.toList args.toList ds p:=hA0;rw [Tryd.params3] at hA hval;obtain⟨v0,d0,rfl,rfl,h0⟩:=trodAll_one hA;obtain⟨a0,n0,c0,l0,k0,rfl,hl0,hz0,hb0⟩:=openB_so (hval 0 24 v0 rfl rfl) h0;obtain⟨rfl,rfl⟩:=trodVars_none hV;have hLaid:=typecheckWhole_laid hL;have hs:Rows.uptoBulkAll [d0]≤1048576:=of_decide_eq_true hk;simp only [Rows.uptoBulkAll,Nat.add_zero] at hs;clear hA0 hval0 hk;simp only [List.append_nil] at hW';refine (law_TypecheckWhole k0 l0 a0 n0 c0 W hl0 hz0 (by omega) hLaid).mono fun e W' ⟨he,hb⟩=>?_
 subst he;exact⟨_,rfl,_,_,_,[],_,[],hW',trodAll_mk1 (shut_bool Tryd.underlying4 _),stays_all hb (by decide) hA,rfl,hb.frame _,fun h=>by cases h⟩
theorem typecheckWhole_okB (os:Os):Input.okWideB Tryd.prog ((World.doorLaid Tryd.prog 14 os).forCall (fun _ _=>0) ⟨#[],#[.agg #[.slice none 0 0]],[]⟩) 3 ⟨#[],#[.agg #[.slice none 0 0]],[]⟩=true:=by kernel_rfl
theorem typecheckWhole_reads (os:Os){H:Type}(enc:TypeId×Value→H):∃ places,DataW.whole enc Tryd.prog ((World.doorLaid Tryd.prog 14 os).forCall (fun _ _=>0) ⟨#[],#[.agg #[.slice none 0 0]],[]⟩).memory Tryd.f3.params.toList Rows.typecheckWholeSpec.vars false #[(.agg #[.slice none 0 0]:Value)].toList 8=some ([.agg [.nil]],[],places) :=
 ⟨[],by kernel_rfl⟩
set_option maxRecDepth 100000 in
theorem typecheckWhole_lifted (os:Os)(started:os.Started)(H:Type)(enc:TypeId×Value→H)(F:Stop.Interp) :
  ReturnsInHanded {} Tryd.checked os 3 .any ((Rows.OpenSpec.upto Rows.typecheckWholeSpec).preRow enc Tryd.prog Tryd.f3 Rows.typecheckWholeUptoRow.domain false Rows.typecheckWholeUptoRow.laid) (((Rows.OpenSpec.upto Rows.typecheckWholeSpec).at F).post enc Tryd.prog Tryd.f3 false true false false):=by
 obtain⟨places,hx⟩:=typecheckWhole_reads os enc;refine returnsInHanded_of_row (C:=Tryd.checked) (s:=Rows.OpenSpec.upto Rows.typecheckWholeSpec) typecheckWhole_own started (by kernel_rfl) Tryd.func3
  ⟨World.doorLaid Tryd.prog 14 os,fun _ _=>0,⟨#[],#[.agg #[.slice none 0 0]],[]⟩,rfl,World.shaped_of_RefB (by kernel_rfl) (by kernel_rfl),(Input.okWide_of_okWideB (base:=0) (typecheckWhole_okB os)).1,(Input.okWide_of_okWideB (typecheckWhole_okB os)).2,
   OpenSpec.preRow_of_cond 8 hx (by kernel_rfl) (fun k hk=>by cases hk;kernel_rfl) (by kernel_rfl) (typecheckWhole_met os _),by
    simp only [Assume.holds];exact⟨by simp,by simp,fun _=>Modest.zero,by simp,by simp⟩⟩ ?_
 intro W base args ds gs before hval hW _ hcond _ hL _ _;exact typecheckWhole_contract H enc W base args ds gs before hval hW (hcond _ rfl) hL
theorem typecheckWhole_holds:Rows.TypecheckWholeUptoSaid :=
 OpenClaim.holds_of_cond 3 Tryd.f3 rfl rfl rfl rfl rfl rfl rfl ⟨rfl,rfl,rfl,rfl,rfl⟩ rfl rfl rfl rfl rfl (by kernel_rfl) Tryd.func3 (by kernel_rfl)
  (of_decide_eq_true (by kernel_rfl)) (by unfold Func.isWrapper;first | (rw [if_pos (by decide +kernel)];kernel_rfl) | (rw [if_neg (by decide +kernel)];exact⟨rfl,rfl⟩))
  (fun os started H enc _ F=>by rw [OpenClaim.pre_eq_preRow];exact typecheckWhole_lifted os started H enc F)
theorem typecheckWhole_card:Rows.TypecheckWholeUptoCardSaid :=
 Claim7.holds_tied_plain_at .later [] [.data] true Rows.typecheckWholeUptoCard.stood.harness true
  typecheckWhole_holds (fun _ h=>by cases h) (by kernel_rfl) (fun _ h=>by cases h) typecheckWholeUpto_row_tie rfl ⟨rfl,rfl⟩ (by kernel_rfl) rfl
  (fun f fn hf hfn=>by
   obtain rfl:f=3:=Option.some.inj ((show Tryd.prog.funcNamed "dataflow/dataflowlaw11.TypecheckWhole"=some 3 by kernel_rfl).symm.trans hf) |>.symm
   obtain rfl:fn=Tryd.f3:=(Option.some.inj (Tryd.func3.symm.trans hfn)).symm;exact⟨by kernel_rfl,fun j t ht=>by
    rw [Tryd.params3] at ht;have hm:t∈[24]:=by simpa using Array.mem_of_getElem? ht
    have hall:([24].all fun u=>!Tryd.prog.wantsStandIn u)=true:=by kernel_rfl
    exact (show Tryd.prog.wantsStandIn t=false by simpa using List.all_eq_true.1 hall t hm)⟩)
  (by kernel_rfl)
#print axioms typecheckWhole_card
end Go.Proofs.YtoookjadbhdfhaaDoor
